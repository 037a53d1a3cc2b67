-- packed by pack.py, a program of this claim's repo
import Derived.Test.YtjohfkpgghnpeaaIrC
import Derived.Test.YtjohfkpgghnpeaaIrD
import Derived.Test.YtjohfkpgghnpeaaIrE
import Derived.Test.YtjohfkpgghnpeaaIrB
import Derived.Test.YtjohfkpgghnpeaaIrF
import Derived.Test.YtjohfkpgghnpeaaIrG
import Derived.Test.YtjohfkpgghnpeaaIrH
import Derived.Test.YtjohfkpgghnpeaaIrA
import Derived.Test.YtjohfkpgghnpeaaIrI
import Derived.Test.YtjohfkpgghnpeaaIrJ
import Derived.Test.YtjohfkpgghnpeaaIrK
import Derived.Test.YtjohfkpgghnpeaaIrL
import Derived.Test.YtjohfkpgghnpeaaIrM
import Derived.Test.YtjohfkpgghnpeaaIrN
import Derived.Test.YtjohfkpgghnpeaaIrO
import Derived.Test.YtjohfkpgghnpeaaIrP
import Derived.Test.YtjohfkpgghnpeaaIrQ
import Derived.Test.YtjohfkpgghnpeaaIrR
import Derived.Test.YtjohfkpgghnpeaaIrS
import Derived.Deep.Slices
import Derived.Laws.StructEq
section
namespace Go.Proofs.Ytjohfkpgghnpeaa.SetC
open Go Go.RowKit
open Go.Proofs.Ytjohfkpgghnpeaa.Gen
open Go.Proofs.Ytjohfkpgghnpeaa.Own
open Go.Proofs.Ytjohfkpgghnpeaa.RowK
open Go.Proofs.Ytjohfkpgghnpeaa.ItemC
open Go.Proofs.Ytjohfkpgghnpeaa.PRef
open Go.Proofs.Ytjohfkpgghnpeaa.ItmPr (ofL)
set_option linter.unusedVariables false
def Rd (w : World) (A : Option Addr) (cap : Nat) (l : List H) : Prop :=
  (A = none → l.length = 0 ∧ cap = 0) ∧ ∀ ad, A = some ad → ∀ (j : Nat) (u : Value), (flat l)[j]? = some u → w.cell? (ad.add j) = some u
theorem Rd.b {w w' : World} {A : Option Addr} {cap : Nat} {l : List H} (h : Rd w A cap l) (hb : Below w.heap.size w w') : Rd w' A cap l :=
  ⟨h.1, fun ad e j u hu => cellB hb (h.2 ad e j u hu)⟩
theorem own_rd {w : World} {B n cap : Nat} {A : Option Addr} {l : List H} (h : w.ownsRow B 30 3 (.slice A n cap) n (flat l)) : Rd w A cap l ∧ n = l.length := by
  have hn : n = l.length := by have := h.1; rw [flat_len] at this; omega
  subst hn
  refine ⟨⟨?_, ?_⟩, rfl⟩
  · rintro rfl
    rcases h.2 with ⟨h1, _⟩ | ⟨_, _, _, h1, _⟩
    · injection h1 with _ h2 h3
      exact ⟨h2, h3⟩
    · cases h1
  · rintro ad rfl j u hu
    rcases h.2 with ⟨h1, _⟩ | ⟨g, _, _, h1, _⟩
    · cases h1
    · injection h1 with h1 _ _
      injection h1 with h1
      subst h1
      exact h.cells (g := g) rfl j u hu
def RowPost (l : List H) (W : World) (e : Ending) (w' : World) : Prop :=
  ∃ A cap, e = .returned (.slice A l.length cap) ∧ w'.ownsRow W.heap.size 30 3 (.slice A l.length cap) l.length (flat l) ∧ l.length ≤ cap ∧ Below W.heap.size W w'
set_option maxHeartbeats 2000000 in
theorem clone_calls (W : World) (A : Option Addr) (cap : Nat) (l : List H) (hl : l.length ≤ 1000) (h : Rd W A cap l) :
    Calls Try.prog 65 #[.slice A l.length cap] W (RowPost l W) := by
  cases A with
  | none =>
    obtain ⟨h1, rfl⟩ := h.1 rfl
    obtain rfl : l = [] := List.eq_nil_of_length_eq_zero h1
    have heq := fun w : World => Lib.run_eql_slice_nil (P := Try.prog) w 22 30 none 0 0 0 0 Try.underlying22
    clear h h1
    go_enter Try.func65, Try.ntmps65
    go_wp2_with fail
    go_ret
    exact ⟨none, 0, rfl, ⟨rfl, .inl ⟨rfl, rfl⟩⟩, Nat.le_refl _, Below.refl _ _⟩
  | some a =>
    have heq := fun w : World => Lib.run_eql_slice_nil (P := Try.prog) w 22 30 (some a) l.length cap 0 0 Try.underlying22
    simp only [Option.isNone_some] at heq
    have hsrc : ∀ ad, some a = some ad → ∀ j u, (flat l)[j]? = some u → (W.alloc (.cells #[] 30)).cell? (ad.add j) = some u := fun ad e j u hu => by
      have := h.2 ad e j u hu
      rw [World.cell?_alloc_lt _ _ _ (World.block_lt_of_cell? _ _ this), this]
    have HSRC := Lib.hid hsrc
    clear h hsrc
    go_enter Try.func65, Try.ntmps65
    go_wp2_with (at_builtin
                 refine wpList_appS _ rfl (.tmp 5) (.tmp 6) _ rfl W.heap.size 30 (.agg #[.int .i64 0, .int .u64 0, .string ⟨#[]⟩]) 3 32 Try.underlying22 info3 rfl (by decide) _ 0 [] rfl
                   (own_empty (Nat.le_refl _) (heap_alloc_new _ _)) (some a) l.length cap (flat l) (by rw [flat_len]) rfl (fun e => by cases e) HSRC.out (flat_one l) (by omega) (by omega) (by simp) ?_
                 intro A1 cap1 w1 hown1 hc1 hb1 hs1
                 simp only [Nat.zero_add, List.nil_append] at hown1 hc1)
    go_ret
    exact ⟨A1, cap1, rfl, hown1, hc1, ((Below.refl _ _).alloc (Nat.le_refl _) _).trans hb1⟩
theorem all_calls (W : World) (B g : Nat) (v : Value) (l : List H) (h : IsSet W B g v l) : Calls Try.prog 34 #[.pointer (some ⟨g, 0, none⟩)] W (RowPost l W) := by
  obtain ⟨A, cap, rfl, hcap⟩ := Own.own_slice h.own
  have hcl := clone_calls W A cap l (by have := h.ok.len; omega) (own_rd h.own).1
  have hcell := h.blk.cell 0
  simp only [List.getElem?_toArray] at hcell
  have HC := Lib.hid hcl
  clear hcl h
  go_enter Try.func34, Try.ntmps34
  go_wp2_with fail
  refine HC.out.mono ?_; rintro e w1 ⟨A1, cap1, rfl, hown, hc, hb⟩
  go_wp2_with fail
  go_ret
  exact ⟨A1, cap1, rfl, hown, hc, hb⟩
theorem ofL_snoc : ∀ (l m : List H) (x : H), ofL m (l ++ [x]) = (putL (ofL m l) x.f0 x.f1).1
  | [], m, x => rfl
  | a :: l, m, x => ofL_snoc l _ x
def OfPost (l : List H) (W : World) (e : Ending) (w' : World) : Prop :=
  ∃ v, e = .returned (.pointer (some ⟨W.heap.size, 0, none⟩)) ∧ IsSet w' W.heap.size W.heap.size v (ofL [] l) ∧ Below W.heap.size W w'
theorem Rd.at_ {w : World} {A : Option Addr} {cap : Nat} {l : List H} (h : Rd w A cap l) {j : Nat} (hj : j < l.length) : ∃ ad, A = some ad ∧ w.cell? (ad.add (j * 3)) = some (.int .i64 l[j].f0) ∧ w.cell? ⟨(ad.add (j * 3)).block, (ad.add (j * 3)).off + 1, none⟩ = some (.int .u64 l[j].f1.f0) ∧ w.cell? ⟨(ad.add (j * 3)).block, (ad.add (j * 3)).off + 2, none⟩ = some (.string l[j].f1.f1) := by
  cases A with
  | none => have := (h.1 rfl).1; omega
  | some ad =>
    have hx := List.getElem?_eq_getElem hj
    have h1 := h.2 ad rfl _ _ (flat_get hx 1 _ rfl)
    have h2 := h.2 ad rfl _ _ (flat_get hx 2 _ rfl)
    rw [← Go.Deep.add_add] at h1 h2
    exact ⟨ad, rfl, h.2 ad rfl _ _ (flat_get hx 0 _ rfl), h1, h2⟩
set_option maxHeartbeats 2000000 in
theorem of_calls (W : World) (A : Option Addr) (cap : Nat) (l : List H) (hl : l.length ≤ 1000) (hs : ∀ x ∈ l, x.f1.f1.size ≤ 140737488355328) (h : Rd W A cap l) :
    Calls Try.prog 38 #[.slice A l.length cap] W (OfPost l W) := by
  have HR := Lib.hid h
  have HS := Lib.hid hs
  clear h hs
  go_enter Try.func38, Try.ntmps38
  go_wp2_with fail
  refine (new_calls W).mono ?_; rintro e w1 ⟨rfl, hs1, hb1, hz1⟩
  go_wp2_with fail
  go_loopw [9] (fun i wr => ∃ k : Nat, ∃ v, i = .int .i64 k ∧ k ≤ l.length ∧ IsSet wr W.heap.size W.heap.size v (ofL [] (l.take k)) ∧ Below W.heap.size W wr) (fun i _ => l.length - (intOf i).toNat)
  case atStart => exact ⟨0, _, rfl, by omega, hs1, hb1⟩
  case round =>
    clear hs1 hb1 hz1
    obtain ⟨k, v, rfl, hk, hset, hb⟩ := hrel
    by_cases hlt : k < l.length
    · have hx := HS.out _ (List.getElem_mem hlt)
      obtain ⟨ad, rfl, c0, c1, c2⟩ := HR.out.at_ hlt
      have hsn : ofL [] (l.take (k + 1)) = (putL (ofL [] (l.take k)) l[k].f0 l[k].f1).1 := by
        rw [List.take_succ_eq_append_getElem hlt, ofL_snoc]
      have HSN := Lib.hid hsn
      clear hsn
      generalize l[k] = x at hx c0 c1 c2 HSN
      have d0 := cellB hb c0
      have d1 := cellB hb c1
      have d2 := cellB hb c2
      clear c0 c1 c2
      have hb2 := hb.alloc (o := .cells #[.int .i64 x.f0, .int .u64 x.f1.f0, .string x.f1.f1] 30) hb.size
      have hset2 := hset.b (w' := wr.alloc (.cells #[.int .i64 x.f0, .int .u64 x.f1.f0, .string x.f1.f1] 30)) ((Below.refl _ _).alloc (Nat.le_refl _) _)
      have hput := put_calls _ W.heap.size W.heap.size v _ x.f0 x.f1 hset2 hx hb2.size
      have HP := Lib.hid hput
      have HS2 := Lib.hid hset2
      clear hput hset2 hset
      go_wp2_with fail
      refine HP.out.mono ?_; rintro e w2 ⟨rfl, v', hset3, hk3, _⟩
      have hb3 := hb2.trans (hk3.below HS2.out hb2.size)
      rw [← HSN.out] at hset3
      clear hk3 hb2 hb HP HS2 HSN
      go_wp2_with fail
      go_roundw
      case rel => exact ⟨k + 1, v', by go_num, by omega, hset3, hb3⟩
      case measure => simp [intOf]; omega
    · obtain rfl : k = l.length := by omega
      rw [List.take_length] at hset
      go_wp2_with fail
      go_ret
      exact ⟨v, rfl, hset, hb⟩
end Go.Proofs.Ytjohfkpgghnpeaa.SetC
end
section
namespace Go.Proofs.Ytjohfkpgghnpeaa.SetC
open Go Go.RowKit
open Go.Proofs.Ytjohfkpgghnpeaa.Gen
open Go.Proofs.Ytjohfkpgghnpeaa.Own
open Go.Proofs.Ytjohfkpgghnpeaa.RowK
open Go.Proofs.Ytjohfkpgghnpeaa.ItemC
open Go.Proofs.Ytjohfkpgghnpeaa.PRef
open Go.Proofs.Ytjohfkpgghnpeaa.ItmPr (ofL rd_at)
open Go.Proofs.YtjohfkpgghnpeaaW.PrintWords
set_option linter.unusedVariables false
theorem flat_of_reps {R : H → List Value → Prop} (hR : ∀ x c, R x c → c = hc x) {xs : List H} {inner : List Value} (h : Reps R 3 xs inner) (hl : inner.length = xs.length * 3) : inner = flat xs := by
  apply List.ext_getElem?
  intro t
  rcases Nat.lt_or_ge t (xs.length * 3) with ht | ht
  · have hj : t / 3 < xs.length := by omega
    have h2 := hR _ _ (h.2 (t / 3) _ (List.getElem?_eq_getElem hj))
    have hi : t % 3 < (hc xs[t / 3]).length := by simp [hc]; omega
    have e2 := flat_get (List.getElem?_eq_getElem hj) (t % 3) _ (List.getElem?_eq_getElem hi)
    rw [show t / 3 * 3 + t % 3 = t by omega] at e2
    rw [e2, ← List.getElem?_eq_getElem hi, ← h2, List.getElem?_take, if_pos (by omega), List.getElem?_drop, show t / 3 * 3 + t % 3 = t by omega]
  · rw [List.getElem?_eq_none (by omega), List.getElem?_eq_none (by rw [flat_len]; exact ht)]
theorem R_flat {w : World} {base : Nat} {ok : Nat → Prop} {v : Value} {xs : List H} (h : Kd.R k30 30 w base ok v xs) : w.ownsRow base 30 3 v xs.length (flat xs) ∧ ∀ k, v.ownBlock = some k → ok k := by
  obtain ⟨h0, inner, ho, hr⟩ := h
  have e := flat_of_reps (fun x c hx => k30_openM hx) hr ho.1
  subst e
  exact ⟨ho, h0⟩
theorem C_rd {w : World} {A : Option Addr} {cap : Nat} {l : List H} (h : Rd w A cap l) (hl : l.length ≤ 1000) : Kd.C k30 w A l.length l := by
  refine ⟨rfl, by omega, fun hn => ?_⟩
  cases A with
  | none => have := (h.1 rfl).1; omega
  | some ad => exact ⟨ad, rfl, fun j p hj => ⟨hc p, rfl, k30_mk w p, fun i u hu => h.2 ad rfl _ _ (flat_get hj i u hu)⟩⟩
def dropR (b ver : Int) : List H → List H × Bool
  | [] => ([], false)
  | h :: t => if h.f0 = b ∧ h.f1.f0 ≤ ver then ((dropR b ver t).1, true) else (h :: (dropR b ver t).1, (dropR b ver t).2)
end Go.Proofs.Ytjohfkpgghnpeaa.SetC
end
section
namespace Go.Proofs.Ytjohfkpgghnpeaa.SetC
open Go Go.RowKit
open Go.Proofs.Ytjohfkpgghnpeaa.Gen
open Go.Proofs.Ytjohfkpgghnpeaa.Own
open Go.Proofs.Ytjohfkpgghnpeaa.RowK
open Go.Proofs.Ytjohfkpgghnpeaa.ItemC
open Go.Proofs.Ytjohfkpgghnpeaa.PRef
open Go.Proofs.Ytjohfkpgghnpeaa.ItmPr (ofL)
set_option linter.unusedVariables false
theorem wpList_appN {P : Program} (w : World) {ops : Array Oper} {rest : List Oper} {o : Oper} {a : Act} {Q : Exit → Act → World → Prop} (hgd : o.guard = none) (s x : Operand) (t tn : TypeId)
    (ho : o.op = .call { callee := .builtin .append, args := #[s, x], argTypes := #[t, tn] })
    (e : TypeId) (z : Value) (k bytes : Nat) (ht : P.underlying t = some (.slice e)) {kn : IntKind} (htn : P.underlying tn = some (.int kn)) (hi : (P.info? e).map (fun i => (i.zero, i.size, i.bytes)) = some (some z, k, bytes)) (hzs : z.cells.size = k) (hk : 0 < k)
    (hs : a.eval s = .slice none 0 0) (kq : IntKind) (m : Nat) (hx : a.eval x = .int kq m) (hm : 0 < m) (hn : m < 1000000) (hbytes : bytes ≤ 1000)
    (h : ∀ cap cur w', m ≤ cap → cap ≤ maxLen → cur.size = cap * k → Hid (w'.heap[w.heap.size]? = some (.cells cur e (0, 0))) → w.grownBy w' none → w.heap.size < w'.heap.size → wpList P ops Q rest (a.put o.dst (.slice (some ⟨w.heap.size, 0, none⟩) m cap)) w') : wpList P ops Q (o :: rest) a w := by
  obtain ⟨i, hi0, hz, hsz, hby⟩ := info_one hi
  refine wpList_plain hgd fun K hK => ?_
  have hold : (Builtin.firstCells i.size 0 (.slice none 0 0)).run P w.drew = .ok ([] : List Value).toArray w.drew := by simp [Builtin.firstCells]
  have hfit : Builtin.nextslicecap (0 + m) 0 * i.bytes ≤ 281474976710656 := growslice_fits (by omega) (by
    rw [hby]
    have : (0 + m) * bytes ≤ 1000000 * 1000 := Nat.mul_le_mul (by omega) hbytes
    omega)
  have hrun := Lib.run_append_grow_zeros (P := P) w t tn o.type e i z kq kn ht htn hi0 hz none 0 0 [] hold m hm (by omega) (by omega) (by omega) (by
    rw [hby]
    have : m * bytes ≤ 1000000 * 1000 := Nat.mul_le_mul (by omega) hbytes
    omega) hfit
  have hge := grownCap_ge w (0 + m) 0 e
  have hcm : grownCap w (0 + m) 0 e ≤ maxLen := grownCap_le_maxLen w (0 + m) 0 e (by simp only [maxLen]; omega)
  unfold Oper.wp execOp
  simp only [ho, resolve, invoke, builtin, Sem.run_bind, Sem.run_pure, Result.andThen_ok, List.map_toArray, List.map_cons, List.map_nil, hs, hx, hrun]
  have e0 : 0 + m = m := Nat.zero_add m
  rw [e0] at hge hcm ⊢
  refine hK _ _ (h (grownCap w m 0 e) _ _ hge hcm ?_ (heap_alloc_new w.drew _) ⟨rfl, rfl, rfl, by simp, fun q hq _ => heap_alloc_old w.drew _ hq⟩ (by simp))
  simp only [Array.size_append, List.size_toArray, size_zeroCells, hzs]
  simp
  rw [← Nat.add_mul]
  congr 1
  omega
theorem grow_calls (W : World) (n : Nat) (hn : n ≤ 10000) : Calls Try.prog 92 #[.slice none 0 0, .int .i64 n] W
    fun e w' => ∃ v, e = .returned v ∧ w'.ownsRow W.heap.size 30 3 v 0 [] ∧ Below W.heap.size W w' := by
  have hw1 : IntKind.i64.wrap (n : Int) = (n : Int) := by rw [IntKind.wrap_i64]; omega
  rcases Nat.eq_zero_or_pos n with rfl | hpos
  · go_enter Try.func92, Try.ntmps92
    go_wp2_with fail
    go_ret
    exact ⟨_, rfl, ⟨rfl, .inl ⟨rfl, rfl⟩⟩, Below.refl _ _⟩
  · have hp : (0 : Int) < (n : Int) := by omega
    go_enter Try.func92, Try.ntmps92
    go_wp2_with (at_builtin
                 refine wpList_appN _ rfl (.tmp 20) (.tmp 21) _ _ rfl 30 (.agg #[.int .i64 0, .int .u64 0, .string ⟨#[]⟩]) 3 32 Try.underlying22 Try.underlying3 info3 rfl (by decide) (by rfl) .i64 n (by rfl) hpos (by omega) (by decide) ?_
                 intro cap cur w1 hc hcm hsz hg1 hgr1 hlt1
                 have hc0 : ¬ cap = 0 := by omega)
    go_ret
    exact ⟨_, rfl, ⟨rfl, .inr ⟨W.heap.size, cap, cur, rfl, Nat.le_refl _, hg1.out, Nat.zero_le _, hcm, hsz, by simp⟩⟩, ⟨hgr1.os, hgr1.tape, hgr1.output, hgr1.size, fun k hk => hgr1.block k hk (by simp)⟩⟩
theorem own_low {w : World} {B B' : Nat} {e : TypeId} {k n : Nat} {v : Value} {xs : List Value} (h : w.ownsRow B e k v n xs) (hb : B' ≤ B) : w.ownsRow B' e k v n xs := by
  obtain ⟨h1, h2⟩ := h
  refine ⟨h1, ?_⟩
  rcases h2 with h2 | ⟨g, cap, cur, hv, hg, r⟩
  · exact .inl h2
  · exact .inr ⟨g, cap, cur, hv, by omega, r⟩
set_option maxHeartbeats 4000000 in
theorem concat_calls (W : World) (gb : Nat) (A1 : Option Addr) (c1 : Nat) (l1 : List H) (A2 : Option Addr) (c2 : Nat) (l2 : List H) (hb : Blk W gb 22 #[.slice A1 l1.length c1, .slice A2 l2.length c2]) (hr1 : Rd W A1 c1 l1) (hr2 : Rd W A2 c2 l2) (hl1 : l1.length ≤ 1000) (hl2 : l2.length ≤ 1000) :
    Calls Try.prog 66 #[.slice (some ⟨gb, 0, none⟩) 2 2] W (RowPost (l1 ++ l2) W) := by
  have k0 : W.cell? ⟨gb, 0, none⟩ = some (.slice A1 l1.length c1) := hb.cell 0
  have k1 : W.cell? ⟨gb, 1, none⟩ = some (.slice A2 l2.length c2) := hb.cell 1
  have hgr := grow_calls W (l1.length + l2.length) (by omega)
  have hlen : (l1 ++ l2).length = l1.length + l2.length := by simp
  have hw1 : IntKind.i64.wrap ((l1.length : Int) + (l2.length : Int)) = (l1.length : Int) + (l2.length : Int) := by rw [IntKind.wrap_i64]; omega
  have hw2 : IntKind.i64.wrap (l1.length : Int) = (l1.length : Int) := by rw [IntKind.wrap_i64]; omega
  have HG := Lib.hid hgr
  have HB := Lib.hid hb
  have HR1 := Lib.hid hr1
  have HR2 := Lib.hid hr2
  have HL := Lib.hid hlen
  clear hgr hr1 hr2 hb hlen
  go_enter Try.func66, Try.ntmps66
  go_wp2_with fail
  refine wp_loop_rounds 3 ?_
  rw [rounds_succ]; go_wp2_with fail
  rw [rounds_succ]; go_wp2_with fail
  rw [rounds_succ]; go_wp2_with fail
  refine HG.out.mono ?_; rintro e w1 ⟨v, rfl, hown, hb1⟩
  obtain ⟨A, cap, rfl, hcap⟩ := own_slice hown
  have d0 := cellB hb1 k0
  have hrd1 := Lib.hid (HR1.out.b hb1)
  have hsz1 := hb1.size
  have K1 := Lib.hid k1
  clear k0 k1
  go_wp2_with fail
  refine wp_loop_rounds 3 ?_
  rw [rounds_succ]
  go_wp2_with (at_builtin
               refine wpList_appS _ rfl (.tmp 31) (.tmp 32) _ rfl W.heap.size 30 (.agg #[.int .i64 0, .int .u64 0, .string ⟨#[]⟩]) 3 32 Try.underlying22 info3 rfl (by decide) _ 0 [] rfl
                 hown A1 l1.length c1 (flat l1) (by rw [flat_len]) rfl hrd1.out.1 hrd1.out.2 (flat_one l1) (by omega) (by omega) hsz1 ?_
               intro A3 cap3 w2 hown2 hc2 hb2 hs2
               simp only [Nat.zero_add, List.nil_append] at hown2 hc2)
  have hbW2 : Below W.heap.size W w2 := hb1.trans hb2
  have d1 := cellB hbW2 K1.out
  have hrd2 := Lib.hid (HR2.out.b hbW2)
  have hsz2 := hbW2.size
  clear d0 hown hcap
  rw [rounds_succ]
  go_wp2_with (at_builtin
               refine wpList_appS _ rfl (.tmp 31) (.tmp 32) _ rfl W.heap.size 30 (.agg #[.int .i64 0, .int .u64 0, .string ⟨#[]⟩]) 3 32 Try.underlying22 info3 rfl (by decide) _ l1.length (flat l1) rfl
                 hown2 A2 l2.length c2 (flat l2) (by rw [flat_len]) rfl hrd2.out.1 hrd2.out.2 (flat_one l2) (by omega) (by omega) hsz2 ?_
               intro A4 cap4 w3 hown3 hc3 hb3 hs3)
  rw [rounds_succ]
  go_wp2_with fail
  go_ret
  refine ⟨A4, cap4, by rw [HL.out]; rfl, ?_, by rw [HL.out]; exact hc3, hbW2.trans hb3⟩
  rw [HL.out, flat_append]
  exact hown3
set_option maxHeartbeats 1000000 in
theorem merge_calls (W : World) (A1 : Option Addr) (c1 : Nat) (l1 : List H) (A2 : Option Addr) (c2 : Nat) (l2 : List H) (hr1 : Rd W A1 c1 l1) (hr2 : Rd W A2 c2 l2) (hl : l1.length + l2.length ≤ 1000) (hs : ∀ x ∈ l1 ++ l2, x.f1.f1.size ≤ 140737488355328) :
    Calls Try.prog 36 #[.slice A1 l1.length c1, .slice A2 l2.length c2] W (RowPost (ofL [] (l1 ++ l2)) W) := by
  have hbA : Below W.heap.size W (W.alloc (.cells #[.slice A1 l1.length c1, .slice A2 l2.length c2] 22)) := (Below.refl _ _).alloc (Nat.le_refl _) _
  have hcc := concat_calls _ W.heap.size A1 c1 l1 A2 c2 l2 (Blk.fresh W _ _) (hr1.b hbA) (hr2.b hbA) (by omega) (by omega)
  have hsz : (l1 ++ l2).length ≤ 1000 := by simpa using hl
  obtain ⟨L, hL⟩ : ∃ L, L = l1 ++ l2 := ⟨_, rfl⟩
  rw [← hL] at hcc hs hsz ⊢
  have HC := Lib.hid hcc
  have HS := Lib.hid hs
  have HSZ := Lib.hid hsz
  clear hcc hr1 hr2 hs hsz hL
  go_enter Try.func36, Try.ntmps36
  go_wp2_with fail
  refine HC.out.mono ?_; rintro e w1 ⟨A3, cap3, rfl, hown, hc, hb1⟩
  have hof := of_calls w1 A3 cap3 L HSZ.out HS.out (own_rd hown).1
  have HOF := Lib.hid hof
  have hb2 := hbA.trans (hb1.mono (by simp))
  clear hof hown hc hbA hb1
  go_wp2_with fail
  refine HOF.out.mono ?_; rintro e w2 ⟨v, rfl, hset, hb3⟩
  have hall := all_calls _ _ _ _ _ hset
  have HA := Lib.hid hall
  have hb4 := hb2.trans (hb3.mono hb2.size)
  clear hall hset
  go_wp2_with fail
  refine HA.out.mono ?_; rintro e w3 ⟨A5, cap5, rfl, hown5, hc5, hb5⟩
  go_wp2_with fail
  go_ret
  exact ⟨A5, cap5, rfl, own_low hown5 hb4.size, hc5, hb4.trans (hb5.mono hb4.size)⟩
end Go.Proofs.Ytjohfkpgghnpeaa.SetC
end
section
namespace Go.Proofs.Ytjohfkpgghnpeaa.SetC
open Go Go.RowKit
open Go.Proofs.Ytjohfkpgghnpeaa.ItemC
open Go.Proofs.Ytjohfkpgghnpeaa.PRef
open Go.Proofs.Ytjohfkpgghnpeaa.ItmPr (ofL putL_ok find_pos ofL_ok)
set_option linter.unusedVariables false
def omax : Option Int → Option Int → Option Int
  | none, b => b
  | some a, none => some a
  | some a, some b => some (max a b)
theorem omax_none (a : Option Int) : omax a none = a := by cases a <;> rfl
theorem omax_comm (a b : Option Int) : omax a b = omax b a := by
  cases a <;> cases b <;> simp [omax]
  all_goals omega
theorem omax_assoc (a b c : Option Int) : omax (omax a b) c = omax a (omax b c) := by
  cases a <;> cases b <;> cases c <;> simp [omax]
  all_goals omega
def verL (l : List H) (b : Int) : Option Int := (l.find? fun h => h.f0 == b).map (·.f1.f0)
def okH (h : H) : Bool := !(decide (h.f0 < 0)) && !(decide (64 ≤ h.f0)) && mayB h.f1.f1.data.toList
def oneV (h : H) (b : Int) : Option Int := if h.f0 = b ∧ okH h = true then some h.f1.f0 else none
def bestV (b : Int) : List H → Option Int
  | [] => none
  | h :: t => omax (oneV h b) (bestV b t)
theorem bestV_append (b : Int) : ∀ (x y : List H), bestV b (x ++ y) = omax (bestV b x) (bestV b y)
  | [], y => rfl
  | a :: x, y => by
    show omax (oneV a b) (bestV b (x ++ y)) = omax (omax (oneV a b) (bestV b x)) (bestV b y)
    rw [bestV_append b x y, omax_assoc]
theorem verL_mid (t d : List H) (x : H) (b : Int) (hb : x.f0 ≠ b) : verL (t ++ x :: d) b = verL (t ++ d) b := by
  unfold verL
  rw [List.find?_append, List.find?_append, List.find?_cons_of_neg (by simpa using hb)]
theorem verL_hit (t d : List H) (x : H) (b : Int) (hb : x.f0 = b) (ht : t.find? (fun h => h.f0 == b) = none) : verL (t ++ x :: d) b = some x.f1.f0 := by
  unfold verL
  rw [List.find?_append, ht, List.find?_cons_of_pos (by simpa using hb)]
  rfl
theorem find_take_none {l : List H} (hr : Rise l) {p : Nat} {y : H} (hy : l[p]? = some y) : (l.take p).find? (fun h => h.f0 == y.f0) = none := by
  rw [List.find?_eq_none]
  intro h hh
  obtain ⟨i, hi, rfl⟩ := List.getElem_of_mem hh
  rw [List.length_take] at hi
  obtain ⟨hp, rfl⟩ := List.getElem?_eq_some_iff.1 hy
  have := List.pairwise_iff_getElem.1 hr i p (by omega) hp (by omega)
  simp
  omega
theorem verL_put {m : List H} (hm : Ok m) (h : H) (b : Int) : verL (putL m h.f0 h.f1).1 b = omax (verL m b) (oneV h b) := by
  have hf := find_pos h.f0 m hm.1
  by_cases hno : h.f0 < 0 ∨ 64 ≤ h.f0 ∨ mayB h.f1.f1.data.toList = false
  · have e : oneV h b = none := by
      unfold oneV okH
      rw [if_neg]
      rintro ⟨_, h2⟩
      simp only [Bool.and_eq_true, Bool.not_eq_true', decide_eq_false_iff_not] at h2
      rcases hno with h3 | h3 | h3
      · exact h2.1.1 h3
      · exact h2.1.2 h3
      · rw [h3] at h2; exact absurd h2.2 (by decide)
    unfold putL
    rw [if_pos hno, e, omax_none]
  · have hok : okH h = true := by
      unfold okH
      simp only [Bool.and_eq_true, Bool.not_eq_true', decide_eq_false_iff_not]
      refine ⟨⟨fun h3 => hno (.inl h3), fun h3 => hno (.inr (.inl h3))⟩, ?_⟩
      cases h3 : mayB h.f1.f1.data.toList
      · exact absurd (.inr (.inr h3)) hno
      · rfl
    unfold putL
    rw [if_neg hno]
    by_cases hh : hit m h.f0 = false
    · rw [if_pos hh]
      rw [if_neg (by rw [hh]; simp)] at hf
      show verL (m.take (pos m h.f0) ++ h :: m.drop (pos m h.f0)) b = _
      by_cases hb : h.f0 = b
      · subst hb
        have hn : verL m h.f0 = none := by unfold verL; rw [hf]; rfl
        rw [hn, verL_hit _ _ _ _ rfl ?_]
        · unfold oneV
          rw [if_pos ⟨rfl, hok⟩]
          rfl
        · rw [List.find?_eq_none] at hf ⊢
          exact fun x hx => hf x (List.mem_of_mem_take hx)
      · rw [verL_mid _ _ _ _ hb, List.take_append_drop]
        unfold oneV
        rw [if_neg (fun e => hb e.1), omax_none]
    · rw [if_neg hh]
      have hh : hit m h.f0 = true := by simpa using hh
      obtain ⟨y, hy, hyb, hgy⟩ := hit_get hh
      have hgl : getL m h.f0 = (y.f1, true) := by unfold getL; rw [if_pos hh, hgy]
      rw [if_pos hh, hy] at hf
      have hv : verL m h.f0 = some y.f1.f0 := by unfold verL; rw [hf]; rfl
      rw [hgl]
      by_cases hnew : y.f1.f0 < h.f1.f0
      · rw [if_pos hnew]
        have hlt : pos m h.f0 < m.length := (List.getElem?_eq_some_iff.1 hy).1
        show verL (m.set (pos m h.f0) ⟨h.f0, h.f1⟩) b = _
        rw [List.set_eq_take_append_cons_drop, if_pos hlt]
        by_cases hb : h.f0 = b
        · subst hb
          rw [hv, verL_hit _ _ _ _ rfl (by rw [← hyb]; have := find_take_none hm.1 hy; rwa [hyb] at this ⊢)]
          unfold oneV
          rw [if_pos ⟨rfl, hok⟩]
          simp only [omax]
          congr 1
          omega
        · rw [verL_mid _ _ _ _ hb]
          unfold oneV
          rw [if_neg (fun e => hb e.1), omax_none]
          conv => rhs; rw [← List.take_append_drop (pos m h.f0) m, List.drop_eq_getElem_cons hlt]
          rw [verL_mid _ _ _ _ (by
            have := (List.getElem?_eq_some_iff.1 hy).2
            rw [this, hyb]
            exact hb)]
      · rw [if_neg hnew]
        by_cases hb : h.f0 = b
        · subst hb
          rw [hv]
          unfold oneV
          rw [if_pos ⟨rfl, hok⟩]
          simp only [omax]
          congr 1
          omega
        · unfold oneV
          rw [if_neg (fun e => hb e.1), omax_none]
theorem verL_of (b : Int) : ∀ (l m : List H), Ok m → verL (ofL m l) b = omax (verL m b) (bestV b l)
  | [], m, h => (omax_none _).symm
  | a :: l, m, h => by
    show verL (ofL (putL m a.f0 a.f1).1 l) b = _
    rw [verL_of b l _ (putL_ok h _ _), verL_put h, omax_assoc]
    rfl
theorem ok_nil : Ok [] := ⟨List.Pairwise.nil, by simp⟩
theorem verL_sym (x y : List H) (b : Int) : verL (ofL [] (x ++ y)) b = verL (ofL [] (y ++ x)) b := by
  rw [verL_of b _ _ ok_nil, verL_of b _ _ ok_nil, bestV_append, bestV_append, omax_comm (bestV b x)]
def key (h : H) : Int × Int := (h.f0, h.f1.f0)
theorem verL_head (a : H) (t : List H) : verL (a :: t) a.f0 = some a.f1.f0 := by
  unfold verL
  rw [List.find?_cons_of_pos (by simp)]
  rfl
theorem verL_none {a : H} {t : List H} (h : Rise (a :: t)) {b : Int} (hb : b ≤ a.f0) : verL t b = none := by
  unfold verL
  rw [List.find?_eq_none.2 (fun x hx => by have := (List.pairwise_cons.1 h).1 x hx; simp; omega)]
  rfl
theorem verL_tail {a : H} {t : List H} {b : Int} (hb : a.f0 ≠ b) : verL (a :: t) b = verL t b := by
  unfold verL
  rw [List.find?_cons_of_neg (by simpa using hb)]
theorem verL_some {l : List H} {b v : Int} (h : verL l b = some v) : ∃ x ∈ l, x.f0 = b := by
  unfold verL at h
  cases hf : l.find? (fun h => h.f0 == b) with
  | none => rw [hf] at h; cases h
  | some x => exact ⟨x, List.mem_of_find?_eq_some hf, by simpa using List.find?_some hf⟩
theorem keys_eq : ∀ (l l' : List H), Rise l → Rise l' → (∀ b, verL l b = verL l' b) → l.map key = l'.map key
  | [], [], _, _, _ => rfl
  | [], a :: t, _, _, h => by have := h a.f0; rw [verL_head] at this; cases this
  | a :: t, [], _, _, h => by have := h a.f0; rw [verL_head] at this; cases this
  | a :: t, a' :: t', hr, hr', h => by
    have e0 : a.f0 = a'.f0 := by
      have h1 := h a.f0
      have h2 := h a'.f0
      rw [verL_head] at h1 h2
      obtain ⟨x, hx, hxb⟩ := verL_some h1.symm
      obtain ⟨y, hy, hyb⟩ := verL_some h2
      have q1 : a'.f0 ≤ a.f0 := by
        rcases List.mem_cons.1 hx with rfl | hx
        · omega
        · have := (List.pairwise_cons.1 hr').1 x hx; omega
      have q2 : a.f0 ≤ a'.f0 := by
        rcases List.mem_cons.1 hy with rfl | hy
        · omega
        · have := (List.pairwise_cons.1 hr).1 y hy; omega
      omega
    have e1 : a.f1.f0 = a'.f1.f0 := by
      have h1 := h a.f0
      rw [verL_head, e0, verL_head] at h1
      injection h1
    have ih := keys_eq t t' (List.pairwise_cons.1 hr).2 (List.pairwise_cons.1 hr').2 (fun b => by
      by_cases hb : a.f0 = b
      · rw [verL_none hr (by omega), verL_none hr' (by omega)]
      · have := h b
        rwa [verL_tail hb, verL_tail (by omega)] at this)
    rw [List.map_cons, List.map_cons, ih]
    unfold key
    rw [e0, e1]
theorem merge_keys (x y : List H) : (ofL [] (x ++ y)).map key = (ofL [] (y ++ x)).map key :=
  keys_eq _ _ (ofL_ok _ _ ok_nil).1 (ofL_ok _ _ ok_nil).1 (verL_sym x y)
theorem merge_len (x y : List H) : (ofL [] (x ++ y)).length = (ofL [] (y ++ x)).length := by
  have := congrArg List.length (merge_keys x y)
  simpa using this
theorem merge_at (x y : List H) (i : Nat) (h1 : i < (ofL [] (x ++ y)).length) (h2 : i < (ofL [] (y ++ x)).length) : (ofL [] (x ++ y))[i].f0 = (ofL [] (y ++ x))[i].f0 ∧ (ofL [] (x ++ y))[i].f1.f0 = (ofL [] (y ++ x))[i].f1.f0 := by
  have h := congrArg (fun l => l[i]?) (merge_keys x y)
  simp only [List.getElem?_map, List.getElem?_eq_getElem h1, List.getElem?_eq_getElem h2, Option.map_some, Option.some.injEq, key, Prod.mk.injEq] at h
  exact h
end Go.Proofs.Ytjohfkpgghnpeaa.SetC
end
