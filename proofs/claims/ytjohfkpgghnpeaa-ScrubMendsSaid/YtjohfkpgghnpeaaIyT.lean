-- packed by pack.py, a program of this claim's repo
import Derived.Test.YtjohfkpgghnpeaaIyC
import Derived.Test.YtjohfkpgghnpeaaIyD
import Derived.Test.YtjohfkpgghnpeaaIyF
import Derived.Test.YtjohfkpgghnpeaaIyB
import Derived.Test.YtjohfkpgghnpeaaIyG
import Derived.Test.YtjohfkpgghnpeaaIyH
import Derived.Test.YtjohfkpgghnpeaaIyI
import Derived.Test.YtjohfkpgghnpeaaIyA
import Derived.Test.YtjohfkpgghnpeaaIyJ
import Derived.Test.YtjohfkpgghnpeaaIyK
import Derived.Test.YtjohfkpgghnpeaaIyL
import Derived.Test.YtjohfkpgghnpeaaIyM
import Derived.Test.YtjohfkpgghnpeaaIyN
import Derived.Test.YtjohfkpgghnpeaaIyO
import Derived.Test.YtjohfkpgghnpeaaIyP
import Derived.Test.YtjohfkpgghnpeaaIyQ
import Derived.Test.YtjohfkpgghnpeaaIyR
import Derived.Test.YtjohfkpgghnpeaaIyE
import Derived.Test.YtjohfkpgghnpeaaIyS
import Derived.Deep.Slices
import Derived.Laws.StructEq
import Derived.Deep.DeepCutAuto
import Derived.Deep.CutBlock
section
namespace Go.Proofs.Ytjohfkpgghnpeaa.SetC
open Go Go.RowKit
open Go.Proofs.Ytjohfkpgghnpeaa.Gen
open Go.Proofs.Ytjohfkpgghnpeaa.Own
open Go.Proofs.Ytjohfkpgghnpeaa.RowK
open Go.Proofs.Ytjohfkpgghnpeaa.ItemC
open Go.Proofs.Ytjohfkpgghnpeaa.PRef
open Go.Proofs.Ytjohfkpgghnpeaa.ItmPr (ofL)
set_option linter.unusedVariables false
def Rd (w : World) (A : Option Addr) (cap : Nat) (l : List H) : Prop :=
  (A = none → l.length = 0 ∧ cap = 0) ∧ ∀ ad, A = some ad → ∀ (j : Nat) (u : Value), (flat l)[j]? = some u → w.cell? (ad.add j) = some u
theorem Rd.b {w w' : World} {A : Option Addr} {cap : Nat} {l : List H} (h : Rd w A cap l) (hb : Below w.heap.size w w') : Rd w' A cap l :=
  ⟨h.1, fun ad e j u hu => cellB hb (h.2 ad e j u hu)⟩
theorem own_rd {w : World} {B n cap : Nat} {A : Option Addr} {l : List H} (h : w.ownsRow B 30 3 (.slice A n cap) n (flat l)) : Rd w A cap l ∧ n = l.length := by
  have hn : n = l.length := by have := h.1; rw [flat_len] at this; omega
  subst hn
  refine ⟨⟨?_, ?_⟩, rfl⟩
  · rintro rfl
    rcases h.2 with ⟨h1, _⟩ | ⟨_, _, _, h1, _⟩
    · injection h1 with _ h2 h3
      exact ⟨h2, h3⟩
    · cases h1
  · rintro ad rfl j u hu
    rcases h.2 with ⟨h1, _⟩ | ⟨g, _, _, h1, _⟩
    · cases h1
    · injection h1 with h1 _ _
      injection h1 with h1
      subst h1
      exact h.cells (g := g) rfl j u hu
def RowPost (l : List H) (W : World) (e : Ending) (w' : World) : Prop :=
  ∃ A cap, e = .returned (.slice A l.length cap) ∧ w'.ownsRow W.heap.size 30 3 (.slice A l.length cap) l.length (flat l) ∧ l.length ≤ cap ∧ Below W.heap.size W w'
set_option maxHeartbeats 2000000 in
theorem clone_calls (W : World) (A : Option Addr) (cap : Nat) (l : List H) (hl : l.length ≤ 1000) (h : Rd W A cap l) :
    Calls Try.prog 65 #[.slice A l.length cap] W (RowPost l W) := by
  cases A with
  | none =>
    obtain ⟨h1, rfl⟩ := h.1 rfl
    obtain rfl : l = [] := List.eq_nil_of_length_eq_zero h1
    have heq := fun w : World => Lib.run_eql_slice_nil (P := Try.prog) w 22 30 none 0 0 0 0 Try.underlying22
    clear h h1
    go_enter Try.func65, Try.ntmps65
    go_wp2_with fail
    go_ret
    exact ⟨none, 0, rfl, ⟨rfl, .inl ⟨rfl, rfl⟩⟩, Nat.le_refl _, Below.refl _ _⟩
  | some a =>
    have heq := fun w : World => Lib.run_eql_slice_nil (P := Try.prog) w 22 30 (some a) l.length cap 0 0 Try.underlying22
    simp only [Option.isNone_some] at heq
    have hsrc : ∀ ad, some a = some ad → ∀ j u, (flat l)[j]? = some u → (W.alloc (.cells #[] 30)).cell? (ad.add j) = some u := fun ad e j u hu => by
      have := h.2 ad e j u hu
      rw [World.cell?_alloc_lt _ _ _ (World.block_lt_of_cell? _ _ this), this]
    have HSRC := Lib.hid hsrc
    clear h hsrc
    go_enter Try.func65, Try.ntmps65
    go_wp2_with (at_builtin
                 refine wpList_appS _ rfl (.tmp 5) (.tmp 6) _ rfl W.heap.size 30 (.agg #[.int .i64 0, .int .u64 0, .string ⟨#[]⟩]) 3 32 Try.underlying22 info3 rfl (by decide) _ 0 [] rfl
                   (own_empty (Nat.le_refl _) (heap_alloc_new _ _)) (some a) l.length cap (flat l) (by rw [flat_len]) rfl (fun e => by cases e) HSRC.out (flat_one l) (by omega) (by omega) (by simp) ?_
                 intro A1 cap1 w1 hown1 hc1 hb1 hs1
                 simp only [Nat.zero_add, List.nil_append] at hown1 hc1)
    go_ret
    exact ⟨A1, cap1, rfl, hown1, hc1, ((Below.refl _ _).alloc (Nat.le_refl _) _).trans hb1⟩
theorem all_calls (W : World) (B g : Nat) (v : Value) (l : List H) (h : IsSet W B g v l) : Calls Try.prog 34 #[.pointer (some ⟨g, 0, none⟩)] W (RowPost l W) := by
  obtain ⟨A, cap, rfl, hcap⟩ := Own.own_slice h.own
  have hcl := clone_calls W A cap l (by have := h.ok.len; omega) (own_rd h.own).1
  have hcell := h.blk.cell 0
  simp only [List.getElem?_toArray] at hcell
  have HC := Lib.hid hcl
  clear hcl h
  go_enter Try.func34, Try.ntmps34
  go_wp2_with fail
  refine HC.out.mono ?_; rintro e w1 ⟨A1, cap1, rfl, hown, hc, hb⟩
  go_wp2_with fail
  go_ret
  exact ⟨A1, cap1, rfl, hown, hc, hb⟩
theorem ofL_snoc : ∀ (l m : List H) (x : H), ofL m (l ++ [x]) = (putL (ofL m l) x.f0 x.f1).1
  | [], m, x => rfl
  | a :: l, m, x => ofL_snoc l _ x
def OfPost (l : List H) (W : World) (e : Ending) (w' : World) : Prop :=
  ∃ v, e = .returned (.pointer (some ⟨W.heap.size, 0, none⟩)) ∧ IsSet w' W.heap.size W.heap.size v (ofL [] l) ∧ Below W.heap.size W w'
theorem Rd.at_ {w : World} {A : Option Addr} {cap : Nat} {l : List H} (h : Rd w A cap l) {j : Nat} (hj : j < l.length) : ∃ ad, A = some ad ∧ w.cell? (ad.add (j * 3)) = some (.int .i64 l[j].f0) ∧ w.cell? ⟨(ad.add (j * 3)).block, (ad.add (j * 3)).off + 1, none⟩ = some (.int .u64 l[j].f1.f0) ∧ w.cell? ⟨(ad.add (j * 3)).block, (ad.add (j * 3)).off + 2, none⟩ = some (.string l[j].f1.f1) := by
  cases A with
  | none => have := (h.1 rfl).1; omega
  | some ad =>
    have hx := List.getElem?_eq_getElem hj
    have h1 := h.2 ad rfl _ _ (flat_get hx 1 _ rfl)
    have h2 := h.2 ad rfl _ _ (flat_get hx 2 _ rfl)
    rw [← Go.Deep.add_add] at h1 h2
    exact ⟨ad, rfl, h.2 ad rfl _ _ (flat_get hx 0 _ rfl), h1, h2⟩
set_option maxHeartbeats 2000000 in
theorem of_calls (W : World) (A : Option Addr) (cap : Nat) (l : List H) (hl : l.length ≤ 1000) (hs : ∀ x ∈ l, x.f1.f1.size ≤ 140737488355328) (h : Rd W A cap l) :
    Calls Try.prog 38 #[.slice A l.length cap] W (OfPost l W) := by
  have HR := Lib.hid h
  have HS := Lib.hid hs
  clear h hs
  go_enter Try.func38, Try.ntmps38
  go_wp2_with fail
  refine (new_calls W).mono ?_; rintro e w1 ⟨rfl, hs1, hb1, hz1⟩
  go_wp2_with fail
  go_loopw [9] (fun i wr => ∃ k : Nat, ∃ v, i = .int .i64 k ∧ k ≤ l.length ∧ IsSet wr W.heap.size W.heap.size v (ofL [] (l.take k)) ∧ Below W.heap.size W wr) (fun i _ => l.length - (intOf i).toNat)
  case atStart => exact ⟨0, _, rfl, by omega, hs1, hb1⟩
  case round =>
    clear hs1 hb1 hz1
    obtain ⟨k, v, rfl, hk, hset, hb⟩ := hrel
    by_cases hlt : k < l.length
    · have hx := HS.out _ (List.getElem_mem hlt)
      obtain ⟨ad, rfl, c0, c1, c2⟩ := HR.out.at_ hlt
      have hsn : ofL [] (l.take (k + 1)) = (putL (ofL [] (l.take k)) l[k].f0 l[k].f1).1 := by
        rw [List.take_succ_eq_append_getElem hlt, ofL_snoc]
      have HSN := Lib.hid hsn
      clear hsn
      generalize l[k] = x at hx c0 c1 c2 HSN
      have d0 := cellB hb c0
      have d1 := cellB hb c1
      have d2 := cellB hb c2
      clear c0 c1 c2
      have hb2 := hb.alloc (o := .cells #[.int .i64 x.f0, .int .u64 x.f1.f0, .string x.f1.f1] 30) hb.size
      have hset2 := hset.b (w' := wr.alloc (.cells #[.int .i64 x.f0, .int .u64 x.f1.f0, .string x.f1.f1] 30)) ((Below.refl _ _).alloc (Nat.le_refl _) _)
      have hput := put_calls _ W.heap.size W.heap.size v _ x.f0 x.f1 hset2 hx hb2.size
      have HP := Lib.hid hput
      have HS2 := Lib.hid hset2
      clear hput hset2 hset
      go_wp2_with fail
      refine HP.out.mono ?_; rintro e w2 ⟨rfl, v', hset3, hk3, _⟩
      have hb3 := hb2.trans (hk3.below HS2.out hb2.size)
      rw [← HSN.out] at hset3
      clear hk3 hb2 hb HP HS2 HSN
      go_wp2_with fail
      go_roundw
      case rel => exact ⟨k + 1, v', by go_num, by omega, hset3, hb3⟩
      case measure => simp [intOf]; omega
    · obtain rfl : k = l.length := by omega
      rw [List.take_length] at hset
      go_wp2_with fail
      go_ret
      exact ⟨v, rfl, hset, hb⟩
end Go.Proofs.Ytjohfkpgghnpeaa.SetC
end
section
namespace Go.Proofs.Ytjohfkpgghnpeaa.SetC
open Go Go.RowKit
open Go.Proofs.Ytjohfkpgghnpeaa.Gen
open Go.Proofs.Ytjohfkpgghnpeaa.Own
open Go.Proofs.Ytjohfkpgghnpeaa.RowK
open Go.Proofs.Ytjohfkpgghnpeaa.ItemC
open Go.Proofs.Ytjohfkpgghnpeaa.PRef
open Go.Proofs.Ytjohfkpgghnpeaa.ItmPr (ofL rd_at)
open Go.Proofs.YtjohfkpgghnpeaaW.PrintWords
set_option linter.unusedVariables false
theorem flat_of_reps {R : H → List Value → Prop} (hR : ∀ x c, R x c → c = hc x) {xs : List H} {inner : List Value} (h : Reps R 3 xs inner) (hl : inner.length = xs.length * 3) : inner = flat xs := by
  apply List.ext_getElem?
  intro t
  rcases Nat.lt_or_ge t (xs.length * 3) with ht | ht
  · have hj : t / 3 < xs.length := by omega
    have h2 := hR _ _ (h.2 (t / 3) _ (List.getElem?_eq_getElem hj))
    have hi : t % 3 < (hc xs[t / 3]).length := by simp [hc]; omega
    have e2 := flat_get (List.getElem?_eq_getElem hj) (t % 3) _ (List.getElem?_eq_getElem hi)
    rw [show t / 3 * 3 + t % 3 = t by omega] at e2
    rw [e2, ← List.getElem?_eq_getElem hi, ← h2, List.getElem?_take, if_pos (by omega), List.getElem?_drop, show t / 3 * 3 + t % 3 = t by omega]
  · rw [List.getElem?_eq_none (by omega), List.getElem?_eq_none (by rw [flat_len]; exact ht)]
theorem R_flat {w : World} {base : Nat} {ok : Nat → Prop} {v : Value} {xs : List H} (h : Kd.R k30 30 w base ok v xs) : w.ownsRow base 30 3 v xs.length (flat xs) ∧ ∀ k, v.ownBlock = some k → ok k := by
  obtain ⟨h0, inner, ho, hr⟩ := h
  have e := flat_of_reps (fun x c hx => k30_openM hx) hr ho.1
  subst e
  exact ⟨ho, h0⟩
theorem C_rd {w : World} {A : Option Addr} {cap : Nat} {l : List H} (h : Rd w A cap l) (hl : l.length ≤ 1000) : Kd.C k30 w A l.length l := by
  refine ⟨rfl, by omega, fun hn => ?_⟩
  cases A with
  | none => have := (h.1 rfl).1; omega
  | some ad => exact ⟨ad, rfl, fun j p hj => ⟨hc p, rfl, k30_mk w p, fun i u hu => h.2 ad rfl _ _ (flat_get hj i u hu)⟩⟩
def dropR (b ver : Int) : List H → List H × Bool
  | [] => ([], false)
  | h :: t => if h.f0 = b ∧ h.f1.f0 ≤ ver then ((dropR b ver t).1, true) else (h :: (dropR b ver t).1, (dropR b ver t).2)
end Go.Proofs.Ytjohfkpgghnpeaa.SetC
end
section
namespace Go.Proofs.Ytjohfkpgghnpeaa.SetC
open Go Go.RowKit
open Go.Proofs.Ytjohfkpgghnpeaa.Gen
open Go.Proofs.Ytjohfkpgghnpeaa.Own
open Go.Proofs.Ytjohfkpgghnpeaa.RowK
open Go.Proofs.Ytjohfkpgghnpeaa.ItemC
open Go.Proofs.Ytjohfkpgghnpeaa.PRef
open Go.Proofs.Ytjohfkpgghnpeaa.ItmPr (ofL)
set_option linter.unusedVariables false
theorem wpList_appN {P : Program} (w : World) {ops : Array Oper} {rest : List Oper} {o : Oper} {a : Act} {Q : Exit → Act → World → Prop} (hgd : o.guard = none) (s x : Operand) (t tn : TypeId)
    (ho : o.op = .call { callee := .builtin .append, args := #[s, x], argTypes := #[t, tn] })
    (e : TypeId) (z : Value) (k bytes : Nat) (ht : P.underlying t = some (.slice e)) {kn : IntKind} (htn : P.underlying tn = some (.int kn)) (hi : (P.info? e).map (fun i => (i.zero, i.size, i.bytes)) = some (some z, k, bytes)) (hzs : z.cells.size = k) (hk : 0 < k)
    (hs : a.eval s = .slice none 0 0) (kq : IntKind) (m : Nat) (hx : a.eval x = .int kq m) (hm : 0 < m) (hn : m < 1000000) (hbytes : bytes ≤ 1000)
    (h : ∀ cap cur w', m ≤ cap → cap ≤ maxLen → cur.size = cap * k → Hid (w'.heap[w.heap.size]? = some (.cells cur e (0, 0))) → w.grownBy w' none → w.heap.size < w'.heap.size → wpList P ops Q rest (a.put o.dst (.slice (some ⟨w.heap.size, 0, none⟩) m cap)) w') : wpList P ops Q (o :: rest) a w := by
  obtain ⟨i, hi0, hz, hsz, hby⟩ := info_one hi
  refine wpList_plain hgd fun K hK => ?_
  have hold : (Builtin.firstCells i.size 0 (.slice none 0 0)).run P w.drew = .ok ([] : List Value).toArray w.drew := by simp [Builtin.firstCells]
  have hfit : Builtin.nextslicecap (0 + m) 0 * i.bytes ≤ 281474976710656 := growslice_fits (by omega) (by
    rw [hby]
    have : (0 + m) * bytes ≤ 1000000 * 1000 := Nat.mul_le_mul (by omega) hbytes
    omega)
  have hrun := Lib.run_append_grow_zeros (P := P) w t tn o.type e i z kq kn ht htn hi0 hz none 0 0 [] hold m hm (by omega) (by omega) (by omega) (by
    rw [hby]
    have : m * bytes ≤ 1000000 * 1000 := Nat.mul_le_mul (by omega) hbytes
    omega) hfit
  have hge := grownCap_ge w (0 + m) 0 e
  have hcm : grownCap w (0 + m) 0 e ≤ maxLen := grownCap_le_maxLen w (0 + m) 0 e (by simp only [maxLen]; omega)
  unfold Oper.wp execOp
  simp only [ho, resolve, invoke, builtin, Sem.run_bind, Sem.run_pure, Result.andThen_ok, List.map_toArray, List.map_cons, List.map_nil, hs, hx, hrun]
  have e0 : 0 + m = m := Nat.zero_add m
  rw [e0] at hge hcm ⊢
  refine hK _ _ (h (grownCap w m 0 e) _ _ hge hcm ?_ (heap_alloc_new w.drew _) ⟨rfl, rfl, rfl, by simp, fun q hq _ => heap_alloc_old w.drew _ hq⟩ (by simp))
  simp only [Array.size_append, List.size_toArray, size_zeroCells, hzs]
  simp
  rw [← Nat.add_mul]
  congr 1
  omega
theorem grow_calls (W : World) (n : Nat) (hn : n ≤ 10000) : Calls Try.prog 92 #[.slice none 0 0, .int .i64 n] W
    fun e w' => ∃ v, e = .returned v ∧ w'.ownsRow W.heap.size 30 3 v 0 [] ∧ Below W.heap.size W w' := by
  have hw1 : IntKind.i64.wrap (n : Int) = (n : Int) := by rw [IntKind.wrap_i64]; omega
  rcases Nat.eq_zero_or_pos n with rfl | hpos
  · go_enter Try.func92, Try.ntmps92
    go_wp2_with fail
    go_ret
    exact ⟨_, rfl, ⟨rfl, .inl ⟨rfl, rfl⟩⟩, Below.refl _ _⟩
  · have hp : (0 : Int) < (n : Int) := by omega
    go_enter Try.func92, Try.ntmps92
    go_wp2_with (at_builtin
                 refine wpList_appN _ rfl (.tmp 20) (.tmp 21) _ _ rfl 30 (.agg #[.int .i64 0, .int .u64 0, .string ⟨#[]⟩]) 3 32 Try.underlying22 Try.underlying3 info3 rfl (by decide) (by rfl) .i64 n (by rfl) hpos (by omega) (by decide) ?_
                 intro cap cur w1 hc hcm hsz hg1 hgr1 hlt1
                 have hc0 : ¬ cap = 0 := by omega)
    go_ret
    exact ⟨_, rfl, ⟨rfl, .inr ⟨W.heap.size, cap, cur, rfl, Nat.le_refl _, hg1.out, Nat.zero_le _, hcm, hsz, by simp⟩⟩, ⟨hgr1.os, hgr1.tape, hgr1.output, hgr1.size, fun k hk => hgr1.block k hk (by simp)⟩⟩
theorem own_low {w : World} {B B' : Nat} {e : TypeId} {k n : Nat} {v : Value} {xs : List Value} (h : w.ownsRow B e k v n xs) (hb : B' ≤ B) : w.ownsRow B' e k v n xs := by
  obtain ⟨h1, h2⟩ := h
  refine ⟨h1, ?_⟩
  rcases h2 with h2 | ⟨g, cap, cur, hv, hg, r⟩
  · exact .inl h2
  · exact .inr ⟨g, cap, cur, hv, by omega, r⟩
set_option maxHeartbeats 4000000 in
theorem concat_calls (W : World) (gb : Nat) (A1 : Option Addr) (c1 : Nat) (l1 : List H) (A2 : Option Addr) (c2 : Nat) (l2 : List H) (hb : Blk W gb 22 #[.slice A1 l1.length c1, .slice A2 l2.length c2]) (hr1 : Rd W A1 c1 l1) (hr2 : Rd W A2 c2 l2) (hl1 : l1.length ≤ 1000) (hl2 : l2.length ≤ 1000) :
    Calls Try.prog 66 #[.slice (some ⟨gb, 0, none⟩) 2 2] W (RowPost (l1 ++ l2) W) := by
  have k0 : W.cell? ⟨gb, 0, none⟩ = some (.slice A1 l1.length c1) := hb.cell 0
  have k1 : W.cell? ⟨gb, 1, none⟩ = some (.slice A2 l2.length c2) := hb.cell 1
  have hgr := grow_calls W (l1.length + l2.length) (by omega)
  have hlen : (l1 ++ l2).length = l1.length + l2.length := by simp
  have hw1 : IntKind.i64.wrap ((l1.length : Int) + (l2.length : Int)) = (l1.length : Int) + (l2.length : Int) := by rw [IntKind.wrap_i64]; omega
  have hw2 : IntKind.i64.wrap (l1.length : Int) = (l1.length : Int) := by rw [IntKind.wrap_i64]; omega
  have HG := Lib.hid hgr
  have HB := Lib.hid hb
  have HR1 := Lib.hid hr1
  have HR2 := Lib.hid hr2
  have HL := Lib.hid hlen
  clear hgr hr1 hr2 hb hlen
  go_enter Try.func66, Try.ntmps66
  go_wp2_with fail
  refine wp_loop_rounds 3 ?_
  rw [rounds_succ]; go_wp2_with fail
  rw [rounds_succ]; go_wp2_with fail
  rw [rounds_succ]; go_wp2_with fail
  refine HG.out.mono ?_; rintro e w1 ⟨v, rfl, hown, hb1⟩
  obtain ⟨A, cap, rfl, hcap⟩ := own_slice hown
  have d0 := cellB hb1 k0
  have hrd1 := Lib.hid (HR1.out.b hb1)
  have hsz1 := hb1.size
  have K1 := Lib.hid k1
  clear k0 k1
  go_wp2_with fail
  refine wp_loop_rounds 3 ?_
  rw [rounds_succ]
  go_wp2_with (at_builtin
               refine wpList_appS _ rfl (.tmp 31) (.tmp 32) _ rfl W.heap.size 30 (.agg #[.int .i64 0, .int .u64 0, .string ⟨#[]⟩]) 3 32 Try.underlying22 info3 rfl (by decide) _ 0 [] rfl
                 hown A1 l1.length c1 (flat l1) (by rw [flat_len]) rfl hrd1.out.1 hrd1.out.2 (flat_one l1) (by omega) (by omega) hsz1 ?_
               intro A3 cap3 w2 hown2 hc2 hb2 hs2
               simp only [Nat.zero_add, List.nil_append] at hown2 hc2)
  have hbW2 : Below W.heap.size W w2 := hb1.trans hb2
  have d1 := cellB hbW2 K1.out
  have hrd2 := Lib.hid (HR2.out.b hbW2)
  have hsz2 := hbW2.size
  clear d0 hown hcap
  rw [rounds_succ]
  go_wp2_with (at_builtin
               refine wpList_appS _ rfl (.tmp 31) (.tmp 32) _ rfl W.heap.size 30 (.agg #[.int .i64 0, .int .u64 0, .string ⟨#[]⟩]) 3 32 Try.underlying22 info3 rfl (by decide) _ l1.length (flat l1) rfl
                 hown2 A2 l2.length c2 (flat l2) (by rw [flat_len]) rfl hrd2.out.1 hrd2.out.2 (flat_one l2) (by omega) (by omega) hsz2 ?_
               intro A4 cap4 w3 hown3 hc3 hb3 hs3)
  rw [rounds_succ]
  go_wp2_with fail
  go_ret
  refine ⟨A4, cap4, by rw [HL.out]; rfl, ?_, by rw [HL.out]; exact hc3, hbW2.trans hb3⟩
  rw [HL.out, flat_append]
  exact hown3
set_option maxHeartbeats 1000000 in
theorem merge_calls (W : World) (A1 : Option Addr) (c1 : Nat) (l1 : List H) (A2 : Option Addr) (c2 : Nat) (l2 : List H) (hr1 : Rd W A1 c1 l1) (hr2 : Rd W A2 c2 l2) (hl : l1.length + l2.length ≤ 1000) (hs : ∀ x ∈ l1 ++ l2, x.f1.f1.size ≤ 140737488355328) :
    Calls Try.prog 36 #[.slice A1 l1.length c1, .slice A2 l2.length c2] W (RowPost (ofL [] (l1 ++ l2)) W) := by
  have hbA : Below W.heap.size W (W.alloc (.cells #[.slice A1 l1.length c1, .slice A2 l2.length c2] 22)) := (Below.refl _ _).alloc (Nat.le_refl _) _
  have hcc := concat_calls _ W.heap.size A1 c1 l1 A2 c2 l2 (Blk.fresh W _ _) (hr1.b hbA) (hr2.b hbA) (by omega) (by omega)
  have hsz : (l1 ++ l2).length ≤ 1000 := by simpa using hl
  obtain ⟨L, hL⟩ : ∃ L, L = l1 ++ l2 := ⟨_, rfl⟩
  rw [← hL] at hcc hs hsz ⊢
  have HC := Lib.hid hcc
  have HS := Lib.hid hs
  have HSZ := Lib.hid hsz
  clear hcc hr1 hr2 hs hsz hL
  go_enter Try.func36, Try.ntmps36
  go_wp2_with fail
  refine HC.out.mono ?_; rintro e w1 ⟨A3, cap3, rfl, hown, hc, hb1⟩
  have hof := of_calls w1 A3 cap3 L HSZ.out HS.out (own_rd hown).1
  have HOF := Lib.hid hof
  have hb2 := hbA.trans (hb1.mono (by simp))
  clear hof hown hc hbA hb1
  go_wp2_with fail
  refine HOF.out.mono ?_; rintro e w2 ⟨v, rfl, hset, hb3⟩
  have hall := all_calls _ _ _ _ _ hset
  have HA := Lib.hid hall
  have hb4 := hb2.trans (hb3.mono hb2.size)
  clear hall hset
  go_wp2_with fail
  refine HA.out.mono ?_; rintro e w3 ⟨A5, cap5, rfl, hown5, hc5, hb5⟩
  go_wp2_with fail
  go_ret
  exact ⟨A5, cap5, rfl, own_low hown5 hb4.size, hc5, hb4.trans (hb5.mono hb4.size)⟩
end Go.Proofs.Ytjohfkpgghnpeaa.SetC
end
section
namespace Go.Proofs.Ytjohfkpgghnpeaa.SetC
open Go Go.RowKit
open Go.Proofs.Ytjohfkpgghnpeaa.Gen
open Go.Proofs.Ytjohfkpgghnpeaa.Own
open Go.Proofs.Ytjohfkpgghnpeaa.RowK
open Go.Proofs.Ytjohfkpgghnpeaa.ItemC
open Go.Proofs.Ytjohfkpgghnpeaa.PRef
open Go.Proofs.Ytjohfkpgghnpeaa.ItmPr (ofL ofL_ok ofL_mem)
set_option linter.unusedVariables false
theorem pos_end {l : List H} {b : Int} (h : ∀ y ∈ l, y.f0 < b) : pos l b = l.length :=
  pos_is b l l.length (Nat.le_refl _) (fun t ht y hy => h y (List.mem_of_getElem? hy)) (fun y hy => by rw [List.getElem?_eq_none (Nat.le_refl _)] at hy; cases hy)
theorem hit_end {l : List H} {b : Int} (h : ∀ y ∈ l, y.f0 < b) : hit l b = false := by
  unfold hit
  rw [pos_end h, List.getElem?_eq_none (Nat.le_refl _)]
theorem putL_end {l : List H} {b : Int} {x : It} (h0 : 0 ≤ b) (h1 : b < 64) (hm : mayB x.f1.data.toList = true) (h : ∀ y ∈ l, y.f0 < b) : (putL l b x).1 = l ++ [⟨b, x⟩] := by
  unfold putL
  rw [if_neg (by rintro (e | e | e); · omega
                 · omega
                 · rw [hm] at e; cases e), if_pos (hit_end h), pos_end h]
  exact ins_end l _
theorem ofL_self_aux : ∀ (l m : List H), Ok (m ++ l) → (∀ x ∈ l, mayB x.f1.f1.data.toList = true) → ofL m l = m ++ l
  | [], m, _, _ => (List.append_nil m).symm
  | a :: l, m, h, hm => by
    have ha := h.2 a (by simp)
    have hp := (List.pairwise_append.1 h.1).2.2
    show ofL (putL m a.f0 a.f1).1 l = _
    rw [putL_end ha.1 ha.2 (hm a List.mem_cons_self) (fun y hy => hp y hy a List.mem_cons_self)]
    have h2 := ofL_self_aux l (m ++ [a]) (by simpa using h) (fun x hx => hm x (List.mem_cons_of_mem _ hx))
    rw [List.append_assoc] at h2
    exact h2
theorem ofL_self (l : List H) : ofL [] (ofL [] l) = ofL [] l :=
  ofL_self_aux (ofL [] l) [] (ofL_ok l [] ⟨List.Pairwise.nil, by simp⟩) (ofL_mem l [] (fun y hy => by cases hy) (fun y _ h => h))
theorem ofL_le (l : List H) : (ofL [] l).length ≤ 64 := (ofL_ok l [] ⟨List.Pairwise.nil, by simp⟩).len
theorem ofL_sz (l : List H) (hs : ∀ x ∈ l, x.f1.f1.size ≤ 140737488355328) : ∀ x ∈ ofL [] l, x.f1.f1.size ≤ 140737488355328 :=
  ofL_mem l [] (fun y hy => by cases hy) (fun y hy _ => hs y hy)
def usedL : List H → Int → Nat
  | [], _ => 0
  | x :: l, b => (if x.f0 < b then x.f1.f1.size else 0) + usedL l b
theorem own_low' {w : World} {B B' : Nat} {e : TypeId} {k n : Nat} {v : Value} {xs : List Value} (h : w.ownsRow B e k v n xs) (hb : B' ≤ B) : w.ownsRow B' e k v n xs := by
  obtain ⟨h1, h2⟩ := h
  refine ⟨h1, ?_⟩
  rcases h2 with h2 | ⟨g, cap, cur, hv, hg, r⟩
  · exact .inl h2
  · exact .inr ⟨g, cap, cur, hv, by omega, r⟩
theorem one_flat (x : H) : flat [x] = hc x := List.append_nil _
theorem one_one (x : H) : ∀ u ∈ hc x, u.oneCell' = true := by
  have h := flat_one [x]
  rw [one_flat] at h
  exact h
theorem one_cells (w : World) (x : H) : ∀ ad : Addr, some (⟨w.heap.size, 0, none⟩ : Addr) = some ad → ∀ j u, (hc x)[j]? = some u → (w.alloc (.cells (hc x).toArray 30)).cell? (ad.add j) = some u := by
  rintro ad e j u hu
  injection e with e
  subst e
  rw [add_lit, Nat.zero_add, (Blk.fresh w _ _).cell j, List.getElem?_toArray]
  exact hu
def lackP (q : List H) (h : H) : Bool := !(getL q h.f0).2 || decide ((getL q h.f0).1.f0 < h.f1.f0)
def lacksL (l1 l2 : List H) : List H := (ofL [] l1).filter (lackP (ofL [] l2))
theorem filter_snoc (P : H → Bool) (m : List H) (k : Nat) (hk : k < m.length) : (m.take (k + 1)).filter P = (m.take k).filter P ++ (if P m[k] = true then [m[k]] else []) := by
  rw [List.take_succ_eq_append_getElem hk, List.filter_append]
  congr 1
  cases h : P m[k] <;> simp [h]
set_option maxHeartbeats 8000000 in
theorem lacks_calls (W : World) (A1 : Option Addr) (c1 : Nat) (l1 : List H) (A2 : Option Addr) (c2 : Nat) (l2 : List H) (hl1 : l1.length ≤ 1000) (hl2 : l2.length ≤ 1000) (hs1 : ∀ x ∈ l1, x.f1.f1.size ≤ 140737488355328) (hs2 : ∀ x ∈ l2, x.f1.f1.size ≤ 140737488355328) (h1 : Rd W A1 c1 l1) (h2 : Rd W A2 c2 l2) :
    Calls Try.prog 67 #[.slice A1 l1.length c1, .slice A2 l2.length c2] W (RowPost (lacksL l1 l2) W) := by
  have ho1 := fun w hb => of_calls w A1 c1 l1 hl1 hs1 (Rd.b h1 hb)
  have ho2 := of_calls W A2 c2 l2 hl2 hs2 h2
  unfold lacksL
  unfold OfPost at ho1 ho2
  have hm := ofL_le l1
  generalize ofL [] l1 = m at ho1 hm ⊢
  generalize ofL [] l2 = q at ho2 ⊢
  obtain ⟨F, hF⟩ : ∃ F : Nat → List H, F = fun k => (m.take k).filter (lackP q) := ⟨_, rfl⟩
  have hF0 : F 0 = [] := by rw [hF]; rfl
  have hFe : m.filter (lackP q) = F m.length := by
    rw [hF]
    show _ = (m.take m.length).filter _
    rw [List.take_length]
  have hFl : ∀ k, (F k).length ≤ 64 := fun k => by
    rw [hF]
    have := (List.filter_sublist (p := lackP q) (l := m.take k)).length_le
    rw [List.length_take] at this
    show ((m.take k).filter (lackP q)).length ≤ 64
    omega
  have hFs : ∀ k (hk : k < m.length), F (k + 1) = F k ++ (if lackP q m[k] = true then [m[k]] else []) := fun k hk => by rw [hF]; exact filter_snoc _ _ _ hk
  rw [hFe]
  have HO1 := Lib.hid ho1
  have HO2 := Lib.hid ho2
  have HFL := Lib.hid hFl
  have HFS := Lib.hid hFs
  clear ho1 ho2 hs1 hs2 h1 h2 hFl hFs hF hFe
  go_enter Try.func67, Try.ntmps67
  go_wp2_with fail
  refine HO2.out.mono ?_; rintro e w1 ⟨vq, rfl, hsq, hb1⟩
  have HSQ := Lib.hid hsq
  clear hsq
  go_wp2_with fail
  refine (HO1.out w1 hb1).mono ?_; rintro e w2 ⟨vm, rfl, hsm, b2⟩
  have HSQ2 := Lib.hid (HSQ.out.b b2)
  have hb2 := hb1.trans (b2.mono hb1.size)
  have HAL := Lib.hid (all_calls _ _ _ _ _ hsm)
  clear hsm hb1 b2
  go_wp2_with fail
  refine HAL.out.mono ?_; rintro e w3 ⟨Am, cm, rfl, hom, hcm, b3⟩
  have HSQ3 := Lib.hid (HSQ2.out.b b3)
  have HRM := Lib.hid (own_rd hom).1
  have hb3 := hb2.trans (b3.mono hb2.size)
  clear hom hb2 b3 HAL HSQ HSQ2 HO1 HO2
  go_wp2_with fail
  go_loopw [6, 17] (fun ov i wr => ∃ (k : Nat) (A : Option Addr) (cap : Nat), i = .int .i64 k ∧ k ≤ m.length ∧ ov = .slice A (F k).length cap ∧ wr.ownsRow w3.heap.size 30 3 (.slice A (F k).length cap) (F k).length (flat (F k)) ∧ (F k).length ≤ cap ∧ Below w3.heap.size w3 wr) (fun ov i _ => m.length - (intOf i).toNat)
  case atStart => exact ⟨0, none, 0, rfl, by omega, by rw [hF0]; rfl, by rw [hF0]; exact ⟨rfl, .inl ⟨rfl, rfl⟩⟩, by rw [hF0]; exact Nat.le_refl _, Below.refl _ _⟩
  case round =>
    obtain ⟨k, A, cap, rfl, hk, rfl, how, hcap, hb⟩ := hrel
    by_cases hlt : k < m.length
    · have hfl := HFL.out k
      have hsn := HFS.out k hlt
      obtain ⟨ad, rfl, c0, c1, c2⟩ := (HRM.out.b hb).at_ hlt
      have HSN := Lib.hid hsn
      clear hsn
      generalize m[k] = x at c0 c1 c2 HSN
      obtain ⟨x0, ⟨x1, x2⟩⟩ := x
      simp only at c0 c1 c2
      have hlk : lackP q ⟨x0, ⟨x1, x2⟩⟩ = (!(getL q x0).2 || decide ((getL q x0).1.f0 < x1)) := rfl
      have bA : Below wr.heap.size wr (wr.alloc (.cells #[.int .i64 x0, .int .u64 x1, .string x2] 30)) := (Below.refl _ _).alloc (Nat.le_refl _) _
      have hg := get_calls (wr.alloc (.cells #[.int .i64 x0, .int .u64 x1, .string x2] 30)) _ _ vq q x0 ((HSQ3.out.b hb).b bA)
      generalize getL q x0 = y at hg hlk
      obtain ⟨⟨y0, y1⟩, is⟩ := y
      simp only at hlk
      rw [hlk] at HSN
      have HG := Lib.hid hg
      have HOW := Lib.hid (own_below how bA)
      have kA : Blk (wr.alloc (.cells #[.int .i64 x0, .int .u64 x1, .string x2] 30)) wr.heap.size 30 #[.int .i64 x0, .int .u64 x1, .string x2] := Blk.fresh _ _ _
      have hbA := hb.trans (bA.mono hb.size)
      clear hg hlk how hb bA
      go_wp2_with fail
      refine HG.out.mono ?_; rintro e w4 ⟨rfl, b4⟩
      have bI : Below w4.heap.size w4 (w4.alloc (.cells #[.int .u64 y0, .string y1] 28)) := (Below.refl _ _).alloc (Nat.le_refl _) _
      have kB := (kA.b b4).b bI
      have hb5 := (hbA.trans (b4.mono hbA.size)).trans (bI.mono (hbA.trans (b4.mono hbA.size)).size)
      have HOW := Lib.hid (own_below (own_below HOW.out b4) bI)
      clear kA hbA b4 HG
      go_upto_region 7 with fail
      refine name_world (fun w => w.ownsRow w3.heap.size 30 3 (.slice A (F k).length cap) (F k).length (flat (F k)) ∧ Blk w wr.heap.size 30 #[.int .i64 x0, .int .u64 x1, .string x2] ∧ Below w3.heap.size w3 w ∧ Blk w w4.heap.size 28 #[.int .u64 y0, .string y1]) ⟨HOW.out, kB, hb5, Blk.fresh _ _ _⟩ ?_
      clear HOW kB hb5 bI
      rintro w5 ⟨how, kB, hb5, kI⟩
      have HOW := Lib.hid how
      have z0 : w5.cell? ⟨wr.heap.size, 0, none⟩ = some (.int .i64 x0) := kB.cell 0
      have z1 : w5.cell? ⟨wr.heap.size, 1, none⟩ = some (.int .u64 x1) := kB.cell 1
      have z2 : w5.cell? ⟨wr.heap.size, 2, none⟩ = some (.string x2) := kB.cell 2
      have z3 : w5.cell? ⟨w4.heap.size, 0, none⟩ = some (.int .u64 y0) := kI.cell 0
      have hsz5 := hb5.size
      clear how kB kI
      by_cases hP : (!is || decide (y0 < x1)) = true
      · rw [if_pos hP] at HSN
        cases is with
        | false =>
          go_wp2_with (at_builtin
                       refine wpList_appS _ rfl (.tmp 38) (.tmp 40) _ rfl w3.heap.size 30 (.agg #[.int .i64 0, .int .u64 0, .string ⟨#[]⟩]) 3 32 Try.underlying22 info3 rfl (by decide) _ (F k).length (flat (F k)) rfl
                         (own_below HOW.out ((Below.refl _ _).alloc (Nat.le_refl _) _)) (some ⟨_, 0, none⟩) 1 1 (hc ⟨x0, ⟨x1, x2⟩⟩) rfl rfl (fun e => by cases e) (one_cells w5 ⟨x0, ⟨x1, x2⟩⟩) (one_one _) (by omega) (by omega) (by simp; omega) ?_
                       intro A6 cap6 w6 hr6 hc6 hb6 hs6)
          rw [← one_flat, ← flat_append] at hr6
          go_roundw
          case rel => exact ⟨k + 1, A6, cap6, by go_num, by omega, by rw [HSN.out]; simp, by rw [HSN.out]; simpa using hr6, by rw [HSN.out]; simpa using hc6, (hb5.alloc hb5.size _).trans hb6⟩
          case measure => simp [intOf]; omega
        | true =>
          have hlt2 : y0 < x1 := by simpa using hP
          go_wp2_with (at_builtin
                       refine wpList_appS _ rfl (.tmp 38) (.tmp 40) _ rfl w3.heap.size 30 (.agg #[.int .i64 0, .int .u64 0, .string ⟨#[]⟩]) 3 32 Try.underlying22 info3 rfl (by decide) _ (F k).length (flat (F k)) rfl
                         (own_below HOW.out ((Below.refl _ _).alloc (Nat.le_refl _) _)) (some ⟨_, 0, none⟩) 1 1 (hc ⟨x0, ⟨x1, x2⟩⟩) rfl rfl (fun e => by cases e) (one_cells w5 ⟨x0, ⟨x1, x2⟩⟩) (one_one _) (by omega) (by omega) (by simp; omega) ?_
                       intro A6 cap6 w6 hr6 hc6 hb6 hs6)
          rw [← one_flat, ← flat_append] at hr6
          go_roundw
          case rel => exact ⟨k + 1, A6, cap6, by go_num, by omega, by rw [HSN.out]; simp, by rw [HSN.out]; simpa using hr6, by rw [HSN.out]; simpa using hc6, (hb5.alloc hb5.size _).trans hb6⟩
          case measure => simp [intOf]; omega
      · rw [if_neg hP, List.append_nil] at HSN
        obtain ⟨rfl, hlt2⟩ : is = true ∧ ¬ y0 < x1 := by
          cases is <;> simp at hP
          exact ⟨rfl, by omega⟩
        go_wp2_with fail
        go_roundw
        case rel => exact ⟨k + 1, A, cap, by go_num, by omega, by rw [HSN.out], by rw [HSN.out]; exact HOW.out, by rw [HSN.out]; exact hcap, hb5⟩
        case measure => simp [intOf]; omega
    · obtain rfl : k = m.length := by omega
      go_wp2_with fail
      go_ret
      exact ⟨A, cap, rfl, own_low' how hb3.size, hcap, hb3.trans (hb.mono hb3.size)⟩
end Go.Proofs.Ytjohfkpgghnpeaa.SetC
end
section
namespace Go.Proofs.Ytjohfkpgghnpeaa.SetC
open Go Go.RowKit
open Go.Proofs.Ytjohfkpgghnpeaa.Gen
open Go.Proofs.Ytjohfkpgghnpeaa.Own
open Go.Proofs.Ytjohfkpgghnpeaa.RowK
open Go.Proofs.Ytjohfkpgghnpeaa.ItemC
open Go.Proofs.Ytjohfkpgghnpeaa.PRef
open Go.Proofs.Ytjohfkpgghnpeaa.ItmPr (ofL ofL_ok ofL_mem)
set_option linter.unusedVariables false
structure S3 where
  A : Option Addr
  cap : Nat
  l : List H
def sv (s : S3) : Value := .slice s.A s.l.length s.cap
def flatS (xs : List S3) : List Value := xs.map sv
theorem flatS_append (a b : List S3) : flatS (a ++ b) = flatS a ++ flatS b := by unfold flatS; rw [List.map_append]
theorem oneS_one (x : S3) : ∀ u ∈ flatS [x], u.oneCell' = true := by
  intro u hu
  obtain rfl := List.mem_singleton.1 hu
  rfl
theorem oneS_cells (w : World) (x : S3) : ∀ ad : Addr, some (⟨w.heap.size, 0, none⟩ : Addr) = some ad → ∀ j u, (flatS [x])[j]? = some u → (w.alloc (.cells #[sv x] 22)).cell? (ad.add j) = some u := by
  rintro ad e j u hu
  injection e with e
  subst e
  rw [add_lit, Nat.zero_add, (Blk.fresh w _ _).cell j, show #[sv x] = [sv x].toArray from rfl, List.getElem?_toArray]
  exact hu
theorem infoS : (Try.prog.info? 22).map (fun i => (i.zero, i.size, i.bytes)) = some (some (.slice none 0 0), 1, 24) := by kernel_rfl
def allL (xs : List S3) : List H := xs.foldl (fun m s => ofL [] (m ++ s.l)) []
theorem allL_snoc (xs : List S3) (x : S3) : allL (xs ++ [x]) = ofL [] (allL xs ++ x.l) := by unfold allL; rw [List.foldl_append]; rfl
theorem allL_le (xs : List S3) : (allL xs).length ≤ 64 := by
  rcases List.eq_nil_or_concat xs with rfl | ⟨a, x, rfl⟩
  · exact Nat.zero_le _
  · rw [List.concat_eq_append, allL_snoc]
    exact ofL_le _
theorem allL_sz : ∀ (xs : List S3), (∀ s ∈ xs, ∀ x ∈ s.l, x.f1.f1.size ≤ 140737488355328) → ∀ (m : List H), (∀ x ∈ m, x.f1.f1.size ≤ 140737488355328) → ∀ x ∈ xs.foldl (fun m s => ofL [] (m ++ s.l)) m, x.f1.f1.size ≤ 140737488355328
  | [], _, m, hm => hm
  | s :: xs, h, m, hm => allL_sz xs (fun t ht => h t (List.mem_cons_of_mem _ ht)) _ (ofL_sz _ (fun x hx => by
      rcases List.mem_append.1 hx with hx | hx
      · exact hm x hx
      · exact h s List.mem_cons_self x hx))
structure Kp (w : World) (b : Option Nat) (y : S3) : Prop where
  rd : Rd w y.A y.cap y.l
  le : y.l.length ≤ y.cap
  lt : ∀ ad, y.A = some ad → ad.block < w.heap.size
  ne : ∀ ad, y.A = some ad → b ≠ some ad.block
theorem cell_heap {w w' : World} {a : Addr} (h : w'.heap[a.block]? = w.heap[a.block]?) : w'.cell? a = w.cell? a := by
  unfold World.cell?
  rw [h]
theorem add_block (a : Addr) (j : Nat) : (a.add j).block = a.block := by unfold Addr.add; split <;> rfl
theorem Kp.b {w w' : World} {b : Option Nat} {y : S3} (h : Kp w b y) (hb : Below w.heap.size w w') : Kp w' b y :=
  ⟨h.rd.b hb, h.le, fun ad e => Nat.lt_of_lt_of_le (h.lt ad e) hb.size, h.ne⟩
theorem Kp.app {w w' : World} {b b' : Option Nat} {y : S3} (h : Kp w b y) (hs : w.heap.size ≤ w'.heap.size) (hm : ∀ q, q < w.heap.size → some q ≠ b → w'.heap[q]? = w.heap[q]?) (hb : b' = b ∨ b' = some w.heap.size) : Kp w' b' y := by
  refine ⟨⟨h.rd.1, fun ad e j u hu => ?_⟩, h.le, fun ad e => Nat.lt_of_lt_of_le (h.lt ad e) hs, fun ad e => ?_⟩
  · rw [cell_heap (w := w) (by rw [add_block]; exact hm _ (h.lt ad e) (fun e2 => h.ne ad e e2.symm))]
    exact h.rd.2 ad e j u hu
  · rcases hb with rfl | rfl
    · exact h.ne ad e
    · intro e2
      injection e2 with e2
      have := h.lt ad e
      omega
theorem Kp.fresh {w w' : World} {b : Option Nat} {A : Option Addr} {cap : Nat} {l : List H} (ho : w'.ownsRow w.heap.size 30 3 (.slice A l.length cap) l.length (flat l)) (hc : l.length ≤ cap) (hb : ∀ k, b = some k → k < w.heap.size) : Kp w' b ⟨A, cap, l⟩ := by
  have hk : ∀ ad, A = some ad → w.heap.size ≤ ad.block ∧ ad.block < w'.heap.size := by
    rintro ad rfl
    rcases ho.2 with ⟨h1, _⟩ | ⟨g, _, cur, h1, hg, hh, _⟩
    · cases h1
    · injection h1 with h1 _ _
      injection h1 with h1
      subst h1
      exact ⟨hg, (Array.getElem?_eq_some_iff.1 hh).1⟩
  refine ⟨(own_rd ho).1, hc, fun ad e => (hk ad e).2, fun ad e e2 => ?_⟩
  have := hb _ e2
  have := (hk ad e).1
  omega
def MPost (xs : List S3) (W : World) (e : Ending) (w' : World) : Prop :=
  ∃ A1 c1 A2 c2, ∃ ys : List S3, e = .returned (.tuple #[.slice A1 (allL xs).length c1, .slice A2 ys.length c2]) ∧ Rd w' A1 c1 (allL xs) ∧ (allL xs).length ≤ c1 ∧
    w'.ownsRow W.heap.size 22 1 (.slice A2 ys.length c2) ys.length (flatS ys) ∧ ys.length ≤ c2 ∧ ys.map (·.l) = xs.map (fun s => lacksL (allL xs) s.l) ∧ (∀ y ∈ ys, Rd w' y.A y.cap y.l ∧ y.l.length ≤ y.cap) ∧ Below W.heap.size W w'
set_option maxRecDepth 20000 in
set_option maxHeartbeats 1600000 in
theorem mend_calls (W : World) (A : Option Addr) (cap : Nat) (xs : List S3) (hl : xs.length ≤ 1000) (hA : 0 < xs.length → ∃ ad, A = some ad) (hc : ∀ ad, A = some ad → ∀ j u, (flatS xs)[j]? = some u → W.cell? (ad.add j) = some u)
    (hx : ∀ s ∈ xs, Rd W s.A s.cap s.l ∧ s.l.length ≤ 64 ∧ ∀ x ∈ s.l, x.f1.f1.size ≤ 140737488355328) :
    Calls Try.prog 44 #[.slice A xs.length cap] W (MPost xs W) := by
  have hg := fun k => allL_le (xs.take k)
  have hgs := fun k => allL_sz (xs.take k) (fun s hs => (hx s (List.mem_of_mem_take hs)).2.2) [] (fun x hx => by cases hx)
  have hG := Lib.hid hg
  have HGS := Lib.hid hgs
  have HC := Lib.hid hc
  have HX := Lib.hid hx
  clear hg hgs hc hx
  go_enter Try.func44, Try.ntmps44
  go_wp2_with fail
  go_loopw [4, 12] (fun av iv wr => ∃ (k : Nat) (A1 : Option Addr) (c1 : Nat), iv = .int .i64 k ∧ k ≤ xs.length ∧ av = .slice A1 (allL (xs.take k)).length c1 ∧ Rd wr A1 c1 (allL (xs.take k)) ∧ (allL (xs.take k)).length ≤ c1 ∧ Below W.heap.size W wr) (fun av iv _ => xs.length - (intOf iv).toNat)
  case atStart => exact ⟨0, none, 0, rfl, by omega, rfl, ⟨fun _ => ⟨rfl, rfl⟩, fun ad e => (by cases e)⟩, Nat.le_refl _, Below.refl _ _⟩
  case round =>
    obtain ⟨k, A1, c1, rfl, hk, rfl, hr, hc1, hb⟩ := hrel
    by_cases hlt : k < xs.length
    · obtain ⟨ad, rfl⟩ := hA (by omega)
      have c0 := cellB hb (HC.out ad rfl k (sv xs[k]) (by unfold flatS; rw [List.getElem?_map, List.getElem?_eq_getElem hlt]; rfl))
      obtain ⟨x1, x2, x3⟩ := HX.out _ (List.getElem_mem hlt)
      have hsn := allL_snoc (xs.take k) xs[k]
      rw [← List.take_succ_eq_append_getElem hlt] at hsn
      have hg := hG.out k
      have hgs := HGS.out k
      have hm := merge_calls wr A1 c1 (allL (xs.take k)) xs[k].A xs[k].cap xs[k].l hr (x1.b hb) (by omega) (fun z hz => by
        rcases List.mem_append.1 hz with h | h
        · exact hgs z h
        · exact x3 z h)
      rw [← hsn] at hm
      unfold RowPost at hm
      have HM := Lib.hid hm
      unfold sv at c0
      clear hsn hm x1 x3 hr hgs
      go_wp2_with fail
      refine HM.out.mono ?_; rintro e w1 ⟨A2, c2, rfl, ho, hc2, b1⟩
      have hb1 := hb.trans (b1.mono hb.size)
      have HR := Lib.hid (own_rd ho).1
      clear hb b1 ho HM c0
      go_wp2_with fail
      go_roundw
      case rel => exact ⟨k + 1, A2, c2, by go_num, by omega, rfl, HR.out, hc2, hb1⟩
      case measure => simp [intOf]; omega
    · obtain rfl : k = xs.length := by omega
      rw [List.take_length] at hr hc1 ⊢
      rename World => W3
      have hal := allL_le xs
      have hgs := HGS.out xs.length
      rw [List.take_length] at hgs
      have hlk : ∀ (w : World), Below W3.heap.size W3 w → ∀ k (hk : k < xs.length), Calls Try.prog 67 #[.slice A1 (allL xs).length c1, .slice xs[k].A xs[k].l.length xs[k].cap] w (RowPost (lacksL (allL xs) xs[k].l) w) := fun w hw k hk => by
        obtain ⟨x1, x2, x3⟩ := HX.out _ (List.getElem_mem hk)
        exact lacks_calls w A1 c1 (allL xs) xs[k].A xs[k].cap xs[k].l (by omega) (by omega) hgs x3 (hr.b hw) ((x1.b hb).b hw)
      have HLK := Lib.hid hlk
      have HR := Lib.hid hr
      clear hlk hr hgs
      go_wp2_with fail
      go_loopw [7, 22] (fun ov iv w => ∃ (k : Nat) (A2 : Option Addr) (c2 : Nat) (ys : List S3), iv = .int .i64 k ∧ k ≤ xs.length ∧ ov = .slice A2 ys.length c2 ∧ Hid (w.ownsRow W3.heap.size 22 1 (.slice A2 ys.length c2) ys.length (flatS ys)) ∧ ys.length ≤ c2 ∧ Hid (ys.map (·.l) = (xs.take k).map (fun s => lacksL (allL xs) s.l)) ∧ Hid (∀ y ∈ ys, Kp w (Value.slice A2 ys.length c2).ownBlock y) ∧ Below W3.heap.size W3 w) (fun ov iv _ => xs.length - (intOf iv).toNat)
      case atStart => exact ⟨0, none, 0, [], rfl, by omega, rfl, Lib.hid ⟨rfl, .inl ⟨rfl, rfl⟩⟩, Nat.le_refl _, Lib.hid rfl, Lib.hid (fun y hy => by cases hy), Below.refl _ _⟩
      case round =>
        obtain ⟨k, A2, c2, ys, rfl, hk, rfl, HOW, hc2, HYS, HKP, hbw⟩ := hrel
        have hyl : Hid (ys.length = k) := Lib.hid (by have h := congrArg List.length HYS.out; simp at h; omega)
        by_cases hlt : k < xs.length
        · obtain ⟨ad, rfl⟩ := hA (by omega)
          have c0 := cellB hbw (cellB hb (HC.out ad rfl k (sv xs[k]) (by unfold flatS; rw [List.getElem?_map, List.getElem?_eq_getElem hlt]; rfl)))
          have hlk := HLK.out wr hbw k hlt
          unfold RowPost at hlk
          have HL := Lib.hid hlk
          unfold sv at c0
          have hmap : (xs.take (k + 1)).map (fun s => lacksL (allL xs) s.l) = (xs.take k).map (fun s => lacksL (allL xs) s.l) ++ [lacksL (allL xs) xs[k].l] := by
            rw [List.take_succ_eq_append_getElem hlt, List.map_append]
            rfl
          have HMAP := Lib.hid hmap
          clear hlk hmap
          go_wp2_with fail
          refine HL.out.mono ?_; rintro e w9 ⟨A9, c9, rfl, ho9, hc9, b9⟩
          have hb9 := hbw.trans (b9.mono hbw.size)
          have bB : Below w9.heap.size w9 (w9.alloc (.cells #[.slice A9 (lacksL (allL xs) xs[k].l).length c9] 22)) := (Below.refl _ _).alloc (Nat.le_refl _) _
          have HOW2 := Lib.hid (own_below (own_below HOW.out b9) bB)
          have hvlt : ∀ q, (Value.slice A2 ys.length c2).ownBlock = some q → q < wr.heap.size := fun q e => (HOW.out.lt q e).2
          have HKP2 : Hid (∀ y ∈ ys ++ [⟨A9, c9, lacksL (allL xs) xs[k].l⟩], Kp (w9.alloc (.cells #[.slice A9 (lacksL (allL xs) xs[k].l).length c9] 22)) (Value.slice A2 ys.length c2).ownBlock y) := fun y hy => by
            rcases List.mem_append.1 hy with hy | hy
            · exact ((HKP.out y hy).b b9).b bB
            · obtain rfl := List.mem_singleton.1 hy
              exact (Kp.fresh ho9 hc9 hvlt).b bB
          have hb10 := hb9.trans (bB.mono hb9.size)
          have hsz := hb9.size
          clear HL HOW HKP hbw b9 bB ho9 hvlt c0
          go_wp2_with (at_builtin
                       refine wpList_appG _ rfl (.tmp 26) (.tmp 30) _ rfl W3.heap.size 22 (.slice none 0 0) 1 24 Try.underlying68 infoS rfl (by decide) _ ys.length (flatS ys) rfl
                         HOW2.out (some ⟨_, 0, none⟩) 1 1 (flatS [⟨A9, c9, lacksL (allL xs) xs[k].l⟩]) rfl rfl (fun e => (by cases e)) (oneS_cells w9 ⟨A9, c9, lacksL (allL xs) xs[k].l⟩) (oneS_one _) (by have := hyl.out; omega) (by omega) (by simp; omega) ?_
                       intro A6 cap6 w11 hr6 hc6 hb11 hs11 hm11 hob)
          rw [← flatS_append] at hr6
          go_roundw
          case rel => exact ⟨k + 1, A6, cap6, ys ++ [⟨A9, c9, lacksL (allL xs) xs[k].l⟩], by go_num, by omega, by simp, Lib.hid (by simpa using hr6), by simpa using hc6, Lib.hid (by rw [HMAP.out, List.map_append, HYS.out]; rfl), Lib.hid (fun y hy => by
            have h := (HKP2.out y hy).app hs11 hm11 hob
            simpa using h), hb10.trans hb11⟩
          case measure => simp [intOf]; omega
        · have hyl2 := hyl
          obtain rfl : k = xs.length := by omega
          have hys := HYS.out
          rw [List.take_length] at hys
          have HYS2 := Lib.hid hys
          clear hys
          go_wp2_with fail
          exact bodyPost_ret (v := .tuple #[.slice A1 (allL xs).length c1, .slice A2 ys.length c2]) (by simp [results, Try.results44, go_sem]) rfl ⟨A1, c1, A2, c2, ys, rfl, HR.out.b hbw, hc1, own_low' HOW.out hb.size, hc2, HYS2.out, fun y hy => ⟨(HKP.out y hy).rd, (HKP.out y hy).le⟩, hb.trans (hbw.mono hb.size)⟩
end Go.Proofs.Ytjohfkpgghnpeaa.SetC
end
section
namespace Go.Proofs.Ytjohfkpgghnpeaa.SetC
open Go Go.RowKit
open Go.Proofs.Ytjohfkpgghnpeaa.Gen
open Go.Proofs.Ytjohfkpgghnpeaa.Own
open Go.Proofs.Ytjohfkpgghnpeaa.RowK
open Go.Proofs.Ytjohfkpgghnpeaa.ItemC
open Go.Proofs.Ytjohfkpgghnpeaa.PRef
open Go.Proofs.Ytjohfkpgghnpeaa.ItmPr (ofL ofL_ok ofL_mem)
set_option linter.unusedVariables false
def sameB (x y : It) : Bool := x.f0 == y.f0 && x.f1.toList == y.f1.toList
theorem item_neq (v v' : Int) (s s' : ByteArray) (w : World) : (binOp .neq 28 (.agg #[.int .u64 v, .string s]) (.agg #[.int .u64 v', .string s'])).run Try.prog w = .ok (.bool (!(sameB ⟨v, s⟩ ⟨v', s'⟩))) w := by
  have h := run_equalIn_struct (P := Try.prog) w 9999 28 #[.int .u64 v, .string s] #[.int .u64 v', .string s'] (by kernel_rfl) (by kernel_rfl)
  simp only [binOp, Op.equal, Op.maxDepth]
  simp only [Program.fieldsOf, Try.underlying28, Op.eqFields] at h
  have p1 : ∀ v s w, (part 26 #[.int .u64 v, .string s] 0).run Try.prog w = .ok (.int .u64 v) w := fun v s w => by kernel_rfl
  have p2 : ∀ v s w, (part 9 #[.int .u64 v, .string s] 1).run Try.prog w = .ok (.string s) w := fun v s w => by kernel_rfl
  have q1 : ∀ w, (Op.equalIn 9999 26 (.int .u64 v) (.int .u64 v')).run Try.prog w = .ok (v == v') w := fun w => by rw [run_equalIn_int w 9998 26 .u64 .u64 v v' Try.underlying26]
  have q2 : ∀ w, (Op.equalIn 9999 9 (.string s) (.string s')).run Try.prog w = .ok (s.toList == s'.toList) w := fun w => run_equalIn_string w 9998 9 s s' Try.underlying9
  unfold sameB
  cases h1 : (v == v') with
  | false =>
    simp [p1, p2, q1, q2, h1] at h
    simp [h]
  | true =>
    cases h2 : (s.toList == s'.toList) with
    | false =>
      simp [p1, p2, q1, q2, h1, h2] at h
      simp [h]
    | true =>
      simp [p1, p2, q1, q2, h1, h2] at h
      simp [h]
structure D where
  f0 : Int
  f1 : It
  f2 : It
def dc (d : D) : List Value := [.int .i64 d.f0, .int .u64 d.f1.f0, .string d.f1.f1, .int .u64 d.f2.f0, .string d.f2.f1]
def flatD (l : List D) : List Value := l.flatMap dc
theorem flatD_append (a b : List D) : flatD (a ++ b) = flatD a ++ flatD b := by unfold flatD; rw [List.flatMap_append]
theorem oneD_flat (x : D) : flatD [x] = dc x := List.append_nil _
theorem oneD_one (x : D) : ∀ u ∈ dc x, u.oneCell' = true := by
  intro u hu
  simp only [dc, List.mem_cons, List.not_mem_nil, or_false] at hu
  rcases hu with rfl | rfl | rfl | rfl | rfl <;> rfl
theorem oneD_cells (w : World) (x : D) : ∀ ad : Addr, some (⟨w.heap.size, 0, none⟩ : Addr) = some ad → ∀ j u, (dc x)[j]? = some u → (w.alloc (.cells (dc x).toArray 67)).cell? (ad.add j) = some u := by
  rintro ad e j u hu
  injection e with e
  subst e
  rw [add_lit, Nat.zero_add, (Blk.fresh w _ _).cell j, List.getElem?_toArray]
  exact hu
theorem infoD : (Try.prog.info? 67).map (fun i => (i.zero, i.size, i.bytes)) = some (some (.agg #[.int .i64 0, .int .u64 0, .string ⟨#[]⟩, .int .u64 0, .string ⟨#[]⟩]), 5, 56) := by kernel_rfl
def unlikeP (a b : List H) (h : H) : Bool := ((getL a h.f0).2 != (getL b h.f0).2) || !(sameB (getL a h.f0).1 (getL b h.f0).1)
def unlikeM (a b : List H) (h : H) : D := ⟨h.f0, (getL a h.f0).1, (getL b h.f0).1⟩
def unlikeL (l1 l2 : List H) : List D := ((ofL [] (l1 ++ l2)).filter (unlikeP (ofL [] l1) (ofL [] l2))).map (unlikeM (ofL [] l1) (ofL [] l2))
def UPost (l : List D) (W : World) (e : Ending) (w' : World) : Prop :=
  ∃ A cap, e = .returned (.slice A l.length cap) ∧ w'.ownsRow W.heap.size 67 5 (.slice A l.length cap) l.length (flatD l) ∧ l.length ≤ cap ∧ Below W.heap.size W w'
set_option maxRecDepth 20000 in
set_option maxHeartbeats 8000000 in
theorem unlike_calls (W : World) (A1 : Option Addr) (c1 : Nat) (l1 : List H) (A2 : Option Addr) (c2 : Nat) (l2 : List H) (hl : l1.length + l2.length ≤ 1000) (hs1 : ∀ x ∈ l1, x.f1.f1.size ≤ 140737488355328) (hs2 : ∀ x ∈ l2, x.f1.f1.size ≤ 140737488355328) (h1 : Rd W A1 c1 l1) (h2 : Rd W A2 c2 l2) :
    Calls Try.prog 42 #[.slice A1 l1.length c1, .slice A2 l2.length c2] W (UPost (unlikeL l1 l2) W) := by
  have hs12 : ∀ x ∈ l1 ++ l2, x.f1.f1.size ≤ 140737488355328 := fun x hx => by
    rcases List.mem_append.1 hx with h | h
    · exact hs1 x h
    · exact hs2 x h
  have ho1 := of_calls W A1 c1 l1 (by omega) hs1 h1
  have ho2 := fun w hb => of_calls w A2 c2 l2 (by omega) hs2 (Rd.b h2 hb)
  have hmg := fun w hb => merge_calls w A1 c1 l1 A2 c2 l2 (Rd.b h1 hb) (Rd.b h2 hb) hl hs12
  unfold unlikeL
  unfold OfPost at ho1 ho2
  unfold RowPost at hmg
  have hm := ofL_le (l1 ++ l2)
  generalize ofL [] (l1 ++ l2) = m at hmg hm ⊢
  generalize ofL [] l1 = p at ho1 ⊢
  generalize ofL [] l2 = q at ho2 ⊢
  obtain ⟨F, hF⟩ : ∃ F : Nat → List D, F = fun k => ((m.take k).filter (unlikeP p q)).map (unlikeM p q) := ⟨_, rfl⟩
  have hF0 : F 0 = [] := by rw [hF]; rfl
  have hFe : (m.filter (unlikeP p q)).map (unlikeM p q) = F m.length := by
    rw [hF]
    show _ = ((m.take m.length).filter _).map _
    rw [List.take_length]
  have hFl : ∀ k, (F k).length ≤ 64 := fun k => by
    rw [hF]
    have := (List.filter_sublist (p := unlikeP p q) (l := m.take k)).length_le
    rw [List.length_take] at this
    show (((m.take k).filter (unlikeP p q)).map _).length ≤ 64
    rw [List.length_map]
    omega
  have hFs : ∀ k (hk : k < m.length), F (k + 1) = F k ++ (if unlikeP p q m[k] = true then [unlikeM p q m[k]] else []) := fun k hk => by
    rw [hF]
    show ((m.take (k + 1)).filter _).map _ = ((m.take k).filter _).map _ ++ _
    rw [filter_snoc _ _ _ hk, List.map_append]
    cases unlikeP p q m[k] <;> simp
  rw [hFe]
  have HO1 := Lib.hid ho1
  have HO2 := Lib.hid ho2
  have HMG := Lib.hid hmg
  have HFL := Lib.hid hFl
  have HFS := Lib.hid hFs
  clear ho1 ho2 hmg hs1 hs2 hs12 h1 h2 hFl hFs hF hFe
  go_enter Try.func42, Try.ntmps42
  go_wp2_with fail
  refine HO1.out.mono ?_; rintro e w1 ⟨vp, rfl, hsp, hb1⟩
  have HSP := Lib.hid hsp
  clear hsp
  go_wp2_with fail
  refine (HO2.out w1 hb1).mono ?_; rintro e w2 ⟨vq, rfl, hsq, b2⟩
  have HSP2 := Lib.hid (HSP.out.b b2)
  have HSQ := Lib.hid hsq
  have hb2 := hb1.trans (b2.mono hb1.size)
  clear hsq hb1 b2
  go_wp2_with fail
  refine (HMG.out w2 hb2).mono ?_; rintro e w3 ⟨Am, cm, rfl, hom, hcm, b3⟩
  have HSP3 := Lib.hid (HSP2.out.b b3)
  have HSQ3 := Lib.hid (HSQ.out.b b3)
  have HRM := Lib.hid (own_rd hom).1
  have hb3 := hb2.trans (b3.mono hb2.size)
  clear hom hb2 b3 HSP HSP2 HSQ HO1 HO2 HMG
  go_wp2_with fail
  go_loopw [7, 22] (fun ov i wr => ∃ (k : Nat) (A : Option Addr) (cap : Nat), i = .int .i64 k ∧ k ≤ m.length ∧ ov = .slice A (F k).length cap ∧ wr.ownsRow w3.heap.size 67 5 (.slice A (F k).length cap) (F k).length (flatD (F k)) ∧ (F k).length ≤ cap ∧ Below w3.heap.size w3 wr) (fun ov i _ => m.length - (intOf i).toNat)
  case atStart => exact ⟨0, none, 0, rfl, by omega, by rw [hF0]; rfl, by rw [hF0]; exact ⟨rfl, .inl ⟨rfl, rfl⟩⟩, by rw [hF0]; exact Nat.le_refl _, Below.refl _ _⟩
  case round =>
    obtain ⟨k, A, cap, rfl, hk, rfl, how, hcap, hb⟩ := hrel
    by_cases hlt : k < m.length
    · have hfl := HFL.out k
      have hsn := HFS.out k hlt
      obtain ⟨ad, rfl, c0, c1, c2⟩ := (HRM.out.b hb).at_ hlt
      have HSN := Lib.hid hsn
      clear hsn
      generalize m[k] = x at c0 c1 c2 HSN
      obtain ⟨x0, ⟨x1, x2⟩⟩ := x
      simp only at c0 c1 c2
      have hlk : unlikeP p q ⟨x0, ⟨x1, x2⟩⟩ = (((getL p x0).2 != (getL q x0).2) || !(sameB (getL p x0).1 (getL q x0).1)) := rfl
      have hlm : unlikeM p q ⟨x0, ⟨x1, x2⟩⟩ = ⟨x0, (getL p x0).1, (getL q x0).1⟩ := rfl
      have bA : Below wr.heap.size wr (wr.alloc (.cells #[.int .i64 x0, .int .u64 x1, .string x2] 30)) := (Below.refl _ _).alloc (Nat.le_refl _) _
      have hgp := get_calls (wr.alloc (.cells #[.int .i64 x0, .int .u64 x1, .string x2] 30)) _ _ vp p x0 ((HSP3.out.b hb).b bA)
      have hgq := fun w (h : IsSet w w1.heap.size w1.heap.size vq q) => get_calls w w1.heap.size w1.heap.size vq q x0 h
      have hsq1 := (HSQ3.out.b hb).b bA
      generalize getL p x0 = y at hgp hlk hlm
      generalize getL q x0 = z at hgq hlk hlm
      obtain ⟨⟨y0, y1⟩, is⟩ := y
      obtain ⟨⟨z0, z1⟩, has⟩ := z
      simp only at hlk hlm
      rw [hlk, hlm] at HSN
      have HG := Lib.hid hgp
      have HGQ := Lib.hid hgq
      have HSQ1 := Lib.hid hsq1
      have HOW := Lib.hid (own_below how bA)
      have kA : Blk (wr.alloc (.cells #[.int .i64 x0, .int .u64 x1, .string x2] 30)) wr.heap.size 30 #[.int .i64 x0, .int .u64 x1, .string x2] := Blk.fresh _ _ _
      have hbA := hb.trans (bA.mono hb.size)
      clear hgp hgq hlk hlm how hb bA hsq1
      go_wp2_with fail
      refine HG.out.mono ?_; rintro e w4 ⟨rfl, b4⟩
      have bI : Below w4.heap.size w4 (w4.alloc (.cells #[.int .u64 y0, .string y1] 28)) := (Below.refl _ _).alloc (Nat.le_refl _) _
      have kB := (kA.b b4).b bI
      have kI : Blk (w4.alloc (.cells #[.int .u64 y0, .string y1] 28)) w4.heap.size 28 #[.int .u64 y0, .string y1] := Blk.fresh _ _ _
      have hb4 := (hbA.trans (b4.mono hbA.size)).trans (bI.mono (hbA.trans (b4.mono hbA.size)).size)
      have HOW4 := Lib.hid (own_below (own_below HOW.out b4) bI)
      have HGQ4 := Lib.hid (HGQ.out _ ((HSQ1.out.b b4).b bI))
      have kB0 := kB.cell 0
      simp only [List.getElem?_toArray] at kB0
      clear kA hbA b4 HG HOW HGQ HSQ1
      go_wp2_with fail
      refine HGQ4.out.mono ?_; rintro e w5 ⟨rfl, b5⟩
      have bJ : Below w5.heap.size w5 (w5.alloc (.cells #[.int .u64 z0, .string z1] 28)) := (Below.refl _ _).alloc (Nat.le_refl _) _
      have HOW5 := Lib.hid (own_below (own_below HOW4.out b5) bJ)
      have kB5 := (kB.b b5).b bJ
      have kI5 := (kI.b b5).b bJ
      have hb5 := (hb4.trans (b5.mono hb4.size)).trans (bJ.mono (hb4.trans (b5.mono hb4.size)).size)
      clear kB0 kB kI bI hb4 HGQ4 HOW4 b5
      go_upto_region 8 with fail
      refine name_world (fun w => w.ownsRow w3.heap.size 67 5 (.slice A (F k).length cap) (F k).length (flatD (F k)) ∧ Blk w wr.heap.size 30 #[.int .i64 x0, .int .u64 x1, .string x2] ∧ Below w3.heap.size w3 w ∧ Blk w w4.heap.size 28 #[.int .u64 y0, .string y1] ∧ Blk w w5.heap.size 28 #[.int .u64 z0, .string z1]) ⟨HOW5.out, kB5, hb5, kI5, Blk.fresh _ _ _⟩ ?_
      clear HOW5 kB5 hb5 kI5 bJ
      rintro w6 ⟨how, kB, hb6, kI, kJ⟩
      have HOW := Lib.hid how
      have e0 : w6.cell? ⟨wr.heap.size, 0, none⟩ = some (.int .i64 x0) := kB.cell 0
      have e1 : w6.cell? ⟨w4.heap.size, 0, none⟩ = some (.int .u64 y0) := kI.cell 0
      have e2 : w6.cell? ⟨w4.heap.size, 1, none⟩ = some (.string y1) := kI.cell 1
      have e3 : w6.cell? ⟨w5.heap.size, 0, none⟩ = some (.int .u64 z0) := kJ.cell 0
      have e4 : w6.cell? ⟨w5.heap.size, 1, none⟩ = some (.string z1) := kJ.cell 1
      have hsz6 := hb6.size
      have hneq := item_neq y0 z0 y1 z1
      clear how kB kI kJ
      go_cut [47] (fun s wx => s = .bool ((is != has) || !(sameB ⟨y0, y1⟩ ⟨z0, z1⟩)) ∧ wx = w6)
      case first =>
        obtain ⟨sb, hsb⟩ : ∃ sb, sameB ⟨y0, y1⟩ ⟨z0, z1⟩ = sb := ⟨_, rfl⟩
        rw [hsb] at hneq
        cases is <;> cases has <;> (go_wp2_with fail; go_meet; exact ⟨by rw [hsb]; simp, rfl⟩)
      case rest =>
        obtain ⟨rfl, rfl⟩ := hcut
        clear hneq
        generalize ((is != has) || !(sameB ⟨y0, y1⟩ ⟨z0, z1⟩)) = cnd at HSN ⊢
        cases cnd with
        | true =>
          have HSN2 : Hid (F (k + 1) = F k ++ [⟨x0, ⟨y0, y1⟩, ⟨z0, z1⟩⟩]) := by have h := HSN.out; rw [if_pos rfl] at h; exact h
          clear HSN
          go_wp2_with (at_builtin
                       refine wpList_appS _ rfl (.tmp 48) (.tmp 54) _ rfl w3.heap.size 67 (.agg #[.int .i64 0, .int .u64 0, .string ⟨#[]⟩, .int .u64 0, .string ⟨#[]⟩]) 5 56 Try.underlying62 infoD rfl (by decide) _ (F k).length (flatD (F k)) rfl
                         (own_below HOW.out ((Below.refl _ _).alloc (Nat.le_refl _) _)) (some ⟨_, 0, none⟩) 1 1 (dc ⟨x0, ⟨y0, y1⟩, ⟨z0, z1⟩⟩) rfl rfl (fun e => by cases e) (oneD_cells wc ⟨x0, ⟨y0, y1⟩, ⟨z0, z1⟩⟩) (oneD_one _) (by omega) (by omega) (by simp; omega) ?_
                       intro A6 cap6 w6 hr6 hc6 hb7 hs6)
          rw [← oneD_flat, ← flatD_append] at hr6
          go_roundw
          case rel => exact ⟨k + 1, A6, cap6, by go_num, by omega, by rw [HSN2.out]; simp, by rw [HSN2.out]; simpa using hr6, by rw [HSN2.out]; simpa using hc6, (hb6.alloc hb6.size _).trans hb7⟩
          case measure => simp [intOf]; omega
        | false =>
          have HSN2 : Hid (F (k + 1) = F k) := by have h := HSN.out; rw [if_neg (by decide), List.append_nil] at h; exact h
          clear HSN
          go_wp2_with fail
          go_roundw
          case rel => exact ⟨k + 1, A, cap, by go_num, by omega, by rw [HSN2.out], by rw [HSN2.out]; exact HOW.out, by rw [HSN2.out]; exact hcap, hb6⟩
          case measure => simp [intOf]; omega
    · obtain rfl : k = m.length := by omega
      go_wp2_with fail
      go_ret
      exact ⟨A, cap, rfl, own_low' how hb3.size, hcap, hb3.trans (hb.mono hb3.size)⟩
end Go.Proofs.Ytjohfkpgghnpeaa.SetC
end
section
namespace Go.Proofs.Ytjohfkpgghnpeaa.SetC
open Go Go.RowKit
open Go.Proofs.Ytjohfkpgghnpeaa.ItemC
open Go.Proofs.Ytjohfkpgghnpeaa.PRef
open Go.Proofs.Ytjohfkpgghnpeaa.ItmPr (ofL putL_ok find_pos ofL_ok)
set_option linter.unusedVariables false
def omax : Option Int → Option Int → Option Int
  | none, b => b
  | some a, none => some a
  | some a, some b => some (max a b)
theorem omax_none (a : Option Int) : omax a none = a := by cases a <;> rfl
theorem omax_comm (a b : Option Int) : omax a b = omax b a := by
  cases a <;> cases b <;> simp [omax]
  all_goals omega
theorem omax_assoc (a b c : Option Int) : omax (omax a b) c = omax a (omax b c) := by
  cases a <;> cases b <;> cases c <;> simp [omax]
  all_goals omega
def verL (l : List H) (b : Int) : Option Int := (l.find? fun h => h.f0 == b).map (·.f1.f0)
def okH (h : H) : Bool := !(decide (h.f0 < 0)) && !(decide (64 ≤ h.f0)) && mayB h.f1.f1.data.toList
def oneV (h : H) (b : Int) : Option Int := if h.f0 = b ∧ okH h = true then some h.f1.f0 else none
def bestV (b : Int) : List H → Option Int
  | [] => none
  | h :: t => omax (oneV h b) (bestV b t)
theorem bestV_append (b : Int) : ∀ (x y : List H), bestV b (x ++ y) = omax (bestV b x) (bestV b y)
  | [], y => rfl
  | a :: x, y => by
    show omax (oneV a b) (bestV b (x ++ y)) = omax (omax (oneV a b) (bestV b x)) (bestV b y)
    rw [bestV_append b x y, omax_assoc]
theorem verL_mid (t d : List H) (x : H) (b : Int) (hb : x.f0 ≠ b) : verL (t ++ x :: d) b = verL (t ++ d) b := by
  unfold verL
  rw [List.find?_append, List.find?_append, List.find?_cons_of_neg (by simpa using hb)]
theorem verL_hit (t d : List H) (x : H) (b : Int) (hb : x.f0 = b) (ht : t.find? (fun h => h.f0 == b) = none) : verL (t ++ x :: d) b = some x.f1.f0 := by
  unfold verL
  rw [List.find?_append, ht, List.find?_cons_of_pos (by simpa using hb)]
  rfl
theorem find_take_none {l : List H} (hr : Rise l) {p : Nat} {y : H} (hy : l[p]? = some y) : (l.take p).find? (fun h => h.f0 == y.f0) = none := by
  rw [List.find?_eq_none]
  intro h hh
  obtain ⟨i, hi, rfl⟩ := List.getElem_of_mem hh
  rw [List.length_take] at hi
  obtain ⟨hp, rfl⟩ := List.getElem?_eq_some_iff.1 hy
  have := List.pairwise_iff_getElem.1 hr i p (by omega) hp (by omega)
  simp
  omega
theorem verL_put {m : List H} (hm : Ok m) (h : H) (b : Int) : verL (putL m h.f0 h.f1).1 b = omax (verL m b) (oneV h b) := by
  have hf := find_pos h.f0 m hm.1
  by_cases hno : h.f0 < 0 ∨ 64 ≤ h.f0 ∨ mayB h.f1.f1.data.toList = false
  · have e : oneV h b = none := by
      unfold oneV okH
      rw [if_neg]
      rintro ⟨_, h2⟩
      simp only [Bool.and_eq_true, Bool.not_eq_true', decide_eq_false_iff_not] at h2
      rcases hno with h3 | h3 | h3
      · exact h2.1.1 h3
      · exact h2.1.2 h3
      · rw [h3] at h2; exact absurd h2.2 (by decide)
    unfold putL
    rw [if_pos hno, e, omax_none]
  · have hok : okH h = true := by
      unfold okH
      simp only [Bool.and_eq_true, Bool.not_eq_true', decide_eq_false_iff_not]
      refine ⟨⟨fun h3 => hno (.inl h3), fun h3 => hno (.inr (.inl h3))⟩, ?_⟩
      cases h3 : mayB h.f1.f1.data.toList
      · exact absurd (.inr (.inr h3)) hno
      · rfl
    unfold putL
    rw [if_neg hno]
    by_cases hh : hit m h.f0 = false
    · rw [if_pos hh]
      rw [if_neg (by rw [hh]; simp)] at hf
      show verL (m.take (pos m h.f0) ++ h :: m.drop (pos m h.f0)) b = _
      by_cases hb : h.f0 = b
      · subst hb
        have hn : verL m h.f0 = none := by unfold verL; rw [hf]; rfl
        rw [hn, verL_hit _ _ _ _ rfl ?_]
        · unfold oneV
          rw [if_pos ⟨rfl, hok⟩]
          rfl
        · rw [List.find?_eq_none] at hf ⊢
          exact fun x hx => hf x (List.mem_of_mem_take hx)
      · rw [verL_mid _ _ _ _ hb, List.take_append_drop]
        unfold oneV
        rw [if_neg (fun e => hb e.1), omax_none]
    · rw [if_neg hh]
      have hh : hit m h.f0 = true := by simpa using hh
      obtain ⟨y, hy, hyb, hgy⟩ := hit_get hh
      have hgl : getL m h.f0 = (y.f1, true) := by unfold getL; rw [if_pos hh, hgy]
      rw [if_pos hh, hy] at hf
      have hv : verL m h.f0 = some y.f1.f0 := by unfold verL; rw [hf]; rfl
      rw [hgl]
      by_cases hnew : y.f1.f0 < h.f1.f0
      · rw [if_pos hnew]
        have hlt : pos m h.f0 < m.length := (List.getElem?_eq_some_iff.1 hy).1
        show verL (m.set (pos m h.f0) ⟨h.f0, h.f1⟩) b = _
        rw [List.set_eq_take_append_cons_drop, if_pos hlt]
        by_cases hb : h.f0 = b
        · subst hb
          rw [hv, verL_hit _ _ _ _ rfl (by rw [← hyb]; have := find_take_none hm.1 hy; rwa [hyb] at this ⊢)]
          unfold oneV
          rw [if_pos ⟨rfl, hok⟩]
          simp only [omax]
          congr 1
          omega
        · rw [verL_mid _ _ _ _ hb]
          unfold oneV
          rw [if_neg (fun e => hb e.1), omax_none]
          conv => rhs; rw [← List.take_append_drop (pos m h.f0) m, List.drop_eq_getElem_cons hlt]
          rw [verL_mid _ _ _ _ (by
            have := (List.getElem?_eq_some_iff.1 hy).2
            rw [this, hyb]
            exact hb)]
      · rw [if_neg hnew]
        by_cases hb : h.f0 = b
        · subst hb
          rw [hv]
          unfold oneV
          rw [if_pos ⟨rfl, hok⟩]
          simp only [omax]
          congr 1
          omega
        · unfold oneV
          rw [if_neg (fun e => hb e.1), omax_none]
theorem verL_of (b : Int) : ∀ (l m : List H), Ok m → verL (ofL m l) b = omax (verL m b) (bestV b l)
  | [], m, h => (omax_none _).symm
  | a :: l, m, h => by
    show verL (ofL (putL m a.f0 a.f1).1 l) b = _
    rw [verL_of b l _ (putL_ok h _ _), verL_put h, omax_assoc]
    rfl
theorem ok_nil : Ok [] := ⟨List.Pairwise.nil, by simp⟩
def key (h : H) : Int × Int := (h.f0, h.f1.f0)
theorem verL_some {l : List H} {b v : Int} (h : verL l b = some v) : ∃ x ∈ l, x.f0 = b := by
  unfold verL at h
  cases hf : l.find? (fun h => h.f0 == b) with
  | none => rw [hf] at h; cases h
  | some x => exact ⟨x, List.mem_of_find?_eq_some hf, by simpa using List.find?_some hf⟩
end Go.Proofs.Ytjohfkpgghnpeaa.SetC
end
section
namespace Go.Proofs.Ytjohfkpgghnpeaa.SetC
open Go Go.RowKit
open Go.Proofs.Ytjohfkpgghnpeaa.ItemC
open Go.Proofs.Ytjohfkpgghnpeaa.PRef
open Go.Proofs.Ytjohfkpgghnpeaa.ItmPr (ofL ofL_ok ofL_mem find_pos)
set_option linter.unusedVariables false
def Z (n : Nat) : List Int := (List.range n).map (fun i : Nat => (i : Int))
def Pn (X Y : List H) (n : Int) : Bool := ((getL X n).2 != (getL Y n).2) || !(sameB (getL X n).1 (getL Y n).1)
def Mn (X Y : List H) (n : Int) : D := ⟨n, (getL X n).1, (getL Y n).1⟩
def On (X Y : List H) (n : Int) : Bool := (getL X n).2 && (getL Y n).2 && ((getL X n).1.f0 == (getL Y n).1.f0) && !((getL X n).1.f1.toList == (getL Y n).1.f1.toList)
theorem getL_hit {l : List H} {n : Int} (h : (getL l n).2 = true) : hit l n = true := by
  cases hh : hit l n with
  | true => rfl
  | false => unfold getL at h; rw [hh] at h; cases h
theorem ver_of (n : Int) (x : List H) : verL (ofL [] x) n = bestV n x := by
  rw [verL_of n x [] ok_nil]
  show omax none _ = _
  rw [omax_comm, omax_none]
def oddP (q : List H) (h : H) : Bool := (getL q h.f0).2 && ((getL q h.f0).1.f0 == h.f1.f0) && !((getL q h.f0).1.f1.toList == h.f1.f1.toList)
def oddL (l1 l2 : List H) : List Int := ((ofL [] l1).filter (oddP (ofL [] l2))).map (·.f0)
theorem getL_mem {l : List H} (hl : Ok l) {h : H} (hh : h ∈ l) : getL l h.f0 = (h.f1, true) := by
  have hf : ∃ y, l.find? (fun z => z.f0 == h.f0) = some y := by
    cases e : l.find? (fun z => z.f0 == h.f0) with
    | some y => exact ⟨y, rfl⟩
    | none =>
      have := List.find?_eq_none.1 e h hh
      simp at this
  obtain ⟨y, hy⟩ := hf
  have hye : y = h := by
    have h1 : y.f0 = h.f0 := by simpa using List.find?_some hy
    have h2 := List.mem_of_find?_eq_some hy
    obtain ⟨i, hi, rfl⟩ := List.mem_iff_getElem.1 h2
    obtain ⟨j, hj, rfl⟩ := List.mem_iff_getElem.1 hh
    rcases Nat.lt_trichotomy i j with h | h | h
    · have := List.pairwise_iff_getElem.1 hl.1 i j hi hj h; omega
    · subst h; rfl
    · have := List.pairwise_iff_getElem.1 hl.1 j i hj hi h; omega
  subst hye
  have hp := find_pos y.f0 l hl.1
  rw [hy] at hp
  unfold getL
  cases hc : hit l y.f0 with
  | false => rw [hc, if_neg (by decide)] at hp; cases hp
  | true =>
    rw [hc, if_pos rfl] at hp
    obtain ⟨x, hx, _, hgx⟩ := hit_get hc
    rw [if_pos rfl, hgx]
    rw [hx] at hp
    injection hp with hp
    rw [← hp]
end Go.Proofs.Ytjohfkpgghnpeaa.SetC
end
section
namespace Go.Proofs.Ytjohfkpgghnpeaa.SetC
open Go Go.RowKit
open Go.Proofs.Ytjohfkpgghnpeaa.ItemC
open Go.Proofs.Ytjohfkpgghnpeaa.PRef
open Go.Proofs.Ytjohfkpgghnpeaa.ItmPr (ofL ofL_ok ofL_mem find_pos)
set_option linter.unusedVariables false
theorem omax_le_l (a b : Option Int) : ∀ v, a = some v → ∃ u, omax a b = some u ∧ v ≤ u := by
  rintro v rfl
  cases b with
  | none => exact ⟨v, omax_none _, Int.le_refl _⟩
  | some w => exact ⟨max v w, rfl, by omega⟩
theorem omax_le_r (a b : Option Int) : ∀ v, b = some v → ∃ u, omax a b = some u ∧ v ≤ u := by
  intro v h
  rw [omax_comm]
  exact omax_le_l b a v h
theorem all_fold (b : Int) : ∀ (xs : List S3) (m : List H), Ok m → ofL [] m = m → (∀ v, verL m b = some v → ∃ u, verL (xs.foldl (fun m s => ofL [] (m ++ s.l)) m) b = some u ∧ v ≤ u) ∧
    ∀ s ∈ xs, ∀ v, bestV b s.l = some v → ∃ u, verL (xs.foldl (fun m s => ofL [] (m ++ s.l)) m) b = some u ∧ v ≤ u
  | [], m, _, _ => ⟨fun v h => ⟨v, h, Int.le_refl _⟩, fun s hs => by cases hs⟩
  | x :: xs, m, hm, hs => by
    have ih := all_fold b xs (ofL [] (m ++ x.l)) (ofL_ok _ [] ok_nil) (ofL_self _)
    have hv : verL (ofL [] (m ++ x.l)) b = omax (verL m b) (bestV b x.l) := by
      rw [ver_of, bestV_append]
      congr 1
      rw [← ver_of, hs]
    refine ⟨fun v h => ?_, fun s hs2 v h => ?_⟩
    · obtain ⟨u, hu, hle⟩ := omax_le_l (verL m b) (bestV b x.l) v h
      obtain ⟨u2, hu2, hle2⟩ := ih.1 u (hv.trans hu)
      exact ⟨u2, hu2, by omega⟩
    · rcases List.mem_cons.1 hs2 with rfl | hs2
      · obtain ⟨u, hu, hle⟩ := omax_le_r (verL m b) (bestV b s.l) v h
        obtain ⟨u2, hu2, hle2⟩ := ih.1 u (hv.trans hu)
        exact ⟨u2, hu2, by omega⟩
      · exact ih.2 s hs2 v h
theorem all_ver {b : Int} {xs : List S3} {s : S3} (hs : s ∈ xs) {v : Int} (h : bestV b s.l = some v) : ∃ u, verL (allL xs) b = some u ∧ v ≤ u :=
  (all_fold b xs [] ok_nil rfl).2 s hs v h
theorem allL_self (xs : List S3) : ofL [] (allL xs) = allL xs := by
  rcases List.eq_nil_or_concat xs with rfl | ⟨a, x, rfl⟩
  · rfl
  · rw [List.concat_eq_append, allL_snoc]
    exact ofL_self _
theorem allL_ok (xs : List S3) : Ok (allL xs) := by
  rw [← allL_self]
  exact ofL_ok _ [] ok_nil
theorem verL_mem {l : List H} (hl : Ok l) {h : H} (hh : h ∈ l) : verL l h.f0 = some h.f1.f0 := by
  have hg := getL_mem hl hh
  have hp := find_pos h.f0 l hl.1
  unfold getL at hg
  cases hc : hit l h.f0 with
  | false =>
    rw [hc, if_neg (by decide)] at hg
    have := congrArg Prod.snd hg
    cases this
  | true =>
    rw [hc, if_pos rfl] at hg
    have hg1 := congrArg Prod.fst hg
    obtain ⟨x, hx, _, hgx⟩ := hit_get hc
    rw [hgx] at hg1
    unfold verL
    rw [hp, if_pos hc, hx]
    show some x.f1.f0 = _
    simp only at hg1
    rw [hg1]
theorem allL_may (xs : List S3) : ∀ x ∈ allL xs, mayB x.f1.f1.data.toList = true := by
  rw [← allL_self]
  exact ofL_mem _ [] (fun y hy => by cases hy) (fun y _ h => h)
theorem lacks_is (xs : List S3) {l : List H} (hl : ofL [] l = l) : lacksL (allL xs) l = (allL xs).filter (lackP l) := by
  unfold lacksL
  rw [allL_self, hl]
theorem lacks_ok (xs : List S3) (l : List H) : Ok ((allL xs).filter (lackP l)) :=
  ⟨(allL_ok xs).1.filter _, fun x hx => (allL_ok xs).2 x (List.mem_filter.1 hx).1⟩
theorem lacks_self (xs : List S3) (l : List H) : ofL [] ((allL xs).filter (lackP l)) = (allL xs).filter (lackP l) :=
  ofL_self_aux _ [] (lacks_ok xs l) (fun x hx => allL_may xs x (List.mem_filter.1 hx).1)
theorem mends_has {xs : List S3} {s : S3} (hs : s ∈ xs) (hl : ofL [] s.l = s.l) {h : H} (hh : h ∈ allL xs) : verL (ofL [] (s.l ++ lacksL (allL xs) s.l)) h.f0 = some h.f1.f0 := by
  have hall := verL_mem (allL_ok xs) hh
  have hA : ∀ v, bestV h.f0 s.l = some v → v ≤ h.f1.f0 := fun v hv => by
    obtain ⟨u, hu, hle⟩ := all_ver hs hv
    rw [hall] at hu
    injection hu with hu
    omega
  have hB : ∀ w, bestV h.f0 ((allL xs).filter (lackP s.l)) = some w → w = h.f1.f0 := fun w hw => by
    rw [← ver_of, lacks_self] at hw
    obtain ⟨y, hy, hye⟩ := verL_some hw
    have h1 := verL_mem (lacks_ok xs s.l) hy
    have h2 := verL_mem (allL_ok xs) (List.mem_filter.1 hy).1
    rw [hye] at h1 h2
    rw [hw] at h1
    rw [hall] at h2
    injection h1 with h1
    injection h2 with h2
    omega
  rw [lacks_is xs hl, ver_of, bestV_append]
  have hor : bestV h.f0 s.l = some h.f1.f0 ∨ bestV h.f0 ((allL xs).filter (lackP s.l)) = some h.f1.f0 := by
    cases hp : lackP s.l h with
    | true =>
      right
      rw [← ver_of, lacks_self]
      exact verL_mem (lacks_ok xs s.l) (List.mem_filter.2 ⟨hh, hp⟩)
    | false =>
      left
      unfold lackP at hp
      have h1 : (getL s.l h.f0).2 = true := by
        cases hc : (getL s.l h.f0).2 with
        | true => rfl
        | false => rw [hc] at hp; cases hp
      have h2 : ¬ (getL s.l h.f0).1.f0 < h.f1.f0 := by
        intro hc
        rw [h1, decide_eq_true hc] at hp
        cases hp
      have hok : Ok s.l := by rw [← hl]; exact ofL_ok _ [] ok_nil
      have hhit := getL_hit h1
      obtain ⟨x, hx, hxe, hgx⟩ := hit_get hhit
      have hxm := List.mem_of_getElem? hx
      have hv := verL_mem hok hxm
      have hg := getL_mem hok hxm
      rw [hxe] at hv hg
      rw [hg] at h2
      rw [← hl, ver_of] at hv
      have := hA _ hv
      rw [hv]
      congr 1
      simp only at h2
      omega
  rcases hor with ho | ho
  · rw [ho]
    cases hb : bestV h.f0 ((allL xs).filter (lackP s.l)) with
    | none => exact omax_none _
    | some w =>
      rw [hB w hb]
      show some (max h.f1.f0 h.f1.f0) = _
      rw [Int.max_self]
  · rw [ho]
    cases ha : bestV h.f0 s.l with
    | none => rfl
    | some v =>
      have := hA v ha
      show some (max v h.f1.f0) = _
      congr 1
      omega
theorem getL_of_ver {l : List H} (hl : Ok l) {b v : Int} (h : verL l b = some v) : (getL l b).2 = true ∧ (getL l b).1.f0 = v := by
  obtain ⟨x, hx, rfl⟩ := verL_some h
  have hg := getL_mem hl hx
  have hv := verL_mem hl hx
  rw [h] at hv
  injection hv with hv
  rw [hg]
  exact ⟨rfl, hv.symm⟩
theorem mends_new {xs : List S3} {l : List H} (hl : ofL [] l = l) {x : H} (hx : x ∈ lacksL (allL xs) l) : (getL l x.f0).2 = false ∨ (getL l x.f0).1.f0 < x.f1.f0 := by
  rw [lacks_is xs hl] at hx
  have hp := (List.mem_filter.1 hx).2
  unfold lackP at hp
  cases hc : (getL l x.f0).2 with
  | false => exact .inl rfl
  | true =>
    rw [hc] at hp
    exact .inr (by simpa using hp)
theorem mends_rise {xs : List S3} {l : List H} (hl : ofL [] l = l) {k : Nat} (hk : k + 1 < (lacksL (allL xs) l).length) : (lacksL (allL xs) l)[k].f0 < (lacksL (allL xs) l)[k + 1].f0 := by
  have h := lacks_ok xs l
  rw [← lacks_is xs hl] at h
  exact List.pairwise_iff_getElem.1 h.1 k (k + 1) (by omega) hk (by omega)
theorem mends_len (xs : List S3) (l : List H) (hl : ofL [] l = l) : (lacksL (allL xs) l).length ≤ 64 := by
  have h := lacks_ok xs l
  rw [← lacks_is xs hl] at h
  exact h.len
end Go.Proofs.Ytjohfkpgghnpeaa.SetC
end
section
namespace Go.Proofs.Ytjohfkpgghnpeaa.SetC
open Go Go.RowKit
open Go.Proofs.Ytjohfkpgghnpeaa.Gen
open Go.Proofs.Ytjohfkpgghnpeaa.Own
open Go.Proofs.Ytjohfkpgghnpeaa.RowK
open Go.Proofs.Ytjohfkpgghnpeaa.ItemC
open Go.Proofs.Ytjohfkpgghnpeaa.PRef
open Go.Proofs.Ytjohfkpgghnpeaa.ItmPr (ofL ofL_ok ofL_mem of_eq near_eq nearL near_length near_dom)
open Go.Proofs.YtjohfkpgghnpeaaW.PrintWords (Kd)
set_option linter.unusedVariables false
def flatI (l : List Int) : List Value := l.map (Value.int .i64)
def IPost (l : List Int) (W : World) (e : Ending) (w' : World) : Prop :=
  ∃ A cap, e = .returned (.slice A l.length cap) ∧ w'.ownsRow W.heap.size 3 1 (.slice A l.length cap) l.length (flatI l) ∧ l.length ≤ cap ∧ Below W.heap.size W w'
def fewH (x : H) : H := ⟨Go.bits .and .i64 x.f0 7, ⟨Go.bits .and .u64 x.f1.f0 3, x.f1.f1⟩⟩
def fewL (l : List H) : List H := ofL [] ((nearL l).map fewH)
theorem flat_few (t d : List H) (x : H) (u0 u1 : Int) : ((flat (t ++ x :: d)).set (t.length * 3) (.int .i64 u0)).set (t.length * 3 + 1) (.int .u64 u1) = flat (t ++ ⟨u0, ⟨u1, x.f1.f1⟩⟩ :: d) := by
  rw [flat_append, flat_append]
  rw [List.set_append_right _ _ (by rw [flat_len]; omega), List.set_append_right _ _ (by rw [flat_len]; omega), flat_len, Nat.sub_self, Nat.add_sub_cancel_left]
  rfl
theorem few_sz {l : List H} (hv : ∀ x ∈ l, 0 ≤ x.f1.f0 ∧ x.f1.f0 < 18446744073709551616) : ∀ z ∈ (nearL l).map fewH, z.f1.f1.size ≤ 140737488355328 := by
  intro z hz
  obtain ⟨y, hy, rfl⟩ := List.mem_map.1 hz
  exact (near_dom hv y hy).sz
set_option maxRecDepth 20000 in
set_option maxHeartbeats 8000000 in
theorem few_calls (W : World) (A1 : Option Addr) (c1 : Nat) (l1 : List H) (hr1 : Kd.C k30 W A1 l1.length l1) (hc1 : l1.length ≤ c1)
    (hs1 : ∀ x ∈ l1, x.f1.f1.size ≤ 9223372036854775807) (hv1 : ∀ x ∈ l1, 0 ≤ x.f1.f0 ∧ x.f1.f0 < 18446744073709551616) :
    Calls Try.prog 41 #[.slice A1 l1.length c1] W (RowPost (fewL l1) W) := by
  have hn1 := tarnlaw09_Near.calls 100 A1 c1 l1 (nearL l1) W hr1 hc1 (near_eq l1 hs1 100 (by omega))
  have hfs := few_sz hv1
  have hy1 := near_length l1
  unfold fewL
  generalize nearL l1 = x at hn1 hfs hy1 ⊢
  have hro := of_eq (x.map fewH) (by rw [List.length_map]; omega) hfs 1000 (by rw [List.length_map]; omega)
  have hlm : (x.map fewH).length = x.length := List.length_map ..
  have HN := Lib.hid hn1
  have HRO := Lib.hid hro
  have HLM := Lib.hid hlm
  clear hn1 hro hfs hs1 hv1 hr1 hlm
  go_enter Try.func41, Try.ntmps41
  go_wp2_with fail
  refine HN.out.mono ?_; rintro e w1 ⟨v1, rfl, hR1, b1⟩
  obtain ⟨ho1, _⟩ := R_flat hR1
  obtain ⟨X, cx, rfl, hcx⟩ := own_slice ho1
  have hb1 : Below W.heap.size W w1 := b1
  clear hR1 b1
  go_wp2_with fail
  go_loopw [4] (fun i wr => ∃ k : Nat, i = .int .i64 k ∧ k ≤ x.length ∧ wr.ownsRow W.heap.size 30 3 (.slice X x.length cx) x.length (flat ((x.take k).map fewH ++ x.drop k)) ∧ Below W.heap.size W wr) (fun i _ => x.length - (intOf i).toNat)
  case atStart => exact ⟨0, rfl, by omega, ho1, hb1⟩
  case round =>
    clear ho1 hb1
    obtain ⟨k, rfl, hk, how, hb⟩ := hrel
    by_cases hlt : k < x.length
    · obtain ⟨g, _, cur, hv, hgB, hg, _⟩ := own_block how (by omega)
      injection hv with hv1 hv2 hv3
      subst hv1
      have hl : x.length = ((x.take k).map fewH ++ x.drop k).length := by simp; omega
      have hL : (x.take k).map fewH ++ x.drop k = (x.take k).map fewH ++ x[k] :: x.drop (k + 1) := by rw [List.drop_eq_getElem_cons hlt]
      have htl : ((x.take k).map fewH).length = k := by simp; omega
      have hS : (x.take (k + 1)).map fewH ++ x.drop (k + 1) = (x.take k).map fewH ++ fewH x[k] :: x.drop (k + 1) := by
        rw [List.take_succ_eq_append_getElem hlt, List.map_append, List.append_assoc]
        rfl
      rw [hL] at how
      have HS := Lib.hid hS
      clear hL hS hl
      generalize (x.take k).map fewH = t at how htl HS
      have hat : (t ++ x[k] :: x.drop (k + 1))[k]? = some x[k] := by rw [List.getElem?_append_right (by omega), htl, Nat.sub_self]; rfl
      generalize x[k] = y at how hat HS
      generalize hdd : x.drop (k + 1) = d at how hat HS
      have hlen : x.length = (t ++ y :: d).length := by rw [← hdd]; simp; omega
      have how2 := how
      rw [hlen] at how2
      have c0 := own_cell how2 hat 0 _ rfl
      have c1 := own_cell how2 hat 1 _ rfl
      rw [add_lit, Nat.zero_add] at c0 c1
      rw [Nat.add_zero] at c0
      have f0 : wr.frozen? ⟨g, k * 3, none⟩ = false := Blk.frozen hg _
      have f1 : wr.frozen? ⟨g, k * 3 + 1, none⟩ = false := Blk.frozen hg _
      have hp1 := own_put how (k * 3) (by omega) (.int .i64 (Go.bits .and .i64 y.f0 7))
      have hp2 := own_put hp1 (k * 3 + 1) (by omega) (.int .u64 (Go.bits .and .u64 y.f1.f0 3))
      have hfl := flat_few t d y (Go.bits .and .i64 y.f0 7) (Go.bits .and .u64 y.f1.f0 3)
      rw [htl] at hfl
      rw [hfl] at hp2
      have hb2 := (hb.setCell (p := ⟨g, k * 3, none⟩) hgB (.int .i64 (Go.bits .and .i64 y.f0 7))).setCell (p := ⟨g, k * 3 + 1, none⟩) hgB (.int .u64 (Go.bits .and .u64 y.f1.f0 3))
      have HP2 := Lib.hid hp2
      have HDD := Lib.hid hdd
      clear hp1 hp2 hfl how how2 hat hlen hdd htl hb hg
      go_wp2_with fail
      go_roundw
      case rel => exact ⟨k + 1, by go_num, by omega, by rw [HDD.out, HS.out]; exact HP2.out, hb2⟩
      case measure => simp [intOf]; omega
    · obtain rfl : k = x.length := by omega
      rw [List.take_length, List.drop_length, List.append_nil] at how
      have HRD := Lib.hid (own_rd how).1
      have hx := HLM.out
      have HOF := Lib.hid (tarnref09_Of.calls 1000 X cx (x.map fewH) (ofL [] (x.map fewH)) wr (C_rd (own_rd how).1 (by omega)) (by omega) HRO.out)
      clear how
      rw [hx] at HOF
      go_wp2_with fail
      refine HOF.out.mono ?_; rintro e w2 ⟨v2, rfl, hR2, b2⟩
      obtain ⟨ho2, _⟩ := R_flat hR2
      obtain ⟨Y, cy, rfl, hcy⟩ := own_slice ho2
      go_wp2_with fail
      go_ret
      exact ⟨Y, cy, rfl, own_low' ho2 hb.size, hcy, hb.trans (b2.mono hb.size)⟩
end Go.Proofs.Ytjohfkpgghnpeaa.SetC
end
