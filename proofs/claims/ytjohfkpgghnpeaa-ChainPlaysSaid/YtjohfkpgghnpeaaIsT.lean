-- packed by pack.py, a program of this claim's repo
import Derived.Test.YtjohfkpgghnpeaaIsC
import Derived.Test.YtjohfkpgghnpeaaIsD
import Derived.Test.YtjohfkpgghnpeaaIsE
import Derived.Test.YtjohfkpgghnpeaaIsB
import Derived.Test.YtjohfkpgghnpeaaIsF
import Derived.Test.YtjohfkpgghnpeaaIsG
import Derived.Test.YtjohfkpgghnpeaaIsH
import Derived.Test.YtjohfkpgghnpeaaIsA
import Derived.Test.YtjohfkpgghnpeaaIsI
import Derived.Test.YtjohfkpgghnpeaaIsJ
import Derived.Test.YtjohfkpgghnpeaaIsK
import Derived.Test.YtjohfkpgghnpeaaIsL
import Derived.Test.YtjohfkpgghnpeaaIsM
import Derived.Test.YtjohfkpgghnpeaaIsN
import Derived.Test.YtjohfkpgghnpeaaIsO
import Derived.Test.YtjohfkpgghnpeaaIsP
import Derived.Test.YtjohfkpgghnpeaaIsQ
import Derived.Test.YtjohfkpgghnpeaaIsR
import Derived.Test.YtjohfkpgghnpeaaIsS
import Derived.Deep.Slices
import Derived.Laws.StructEq
section
namespace Go.Proofs.Ytjohfkpgghnpeaa.SetC
open Go Go.RowKit
open Go.Proofs.Ytjohfkpgghnpeaa.Gen
open Go.Proofs.Ytjohfkpgghnpeaa.Own
open Go.Proofs.Ytjohfkpgghnpeaa.RowK
open Go.Proofs.Ytjohfkpgghnpeaa.ItemC
open Go.Proofs.Ytjohfkpgghnpeaa.PRef
open Go.Proofs.Ytjohfkpgghnpeaa.ItmPr (ofL)
set_option linter.unusedVariables false
def Rd (w : World) (A : Option Addr) (cap : Nat) (l : List H) : Prop :=
  (A = none → l.length = 0 ∧ cap = 0) ∧ ∀ ad, A = some ad → ∀ (j : Nat) (u : Value), (flat l)[j]? = some u → w.cell? (ad.add j) = some u
theorem own_rd {w : World} {B n cap : Nat} {A : Option Addr} {l : List H} (h : w.ownsRow B 30 3 (.slice A n cap) n (flat l)) : Rd w A cap l ∧ n = l.length := by
  have hn : n = l.length := by have := h.1; rw [flat_len] at this; omega
  subst hn
  refine ⟨⟨?_, ?_⟩, rfl⟩
  · rintro rfl
    rcases h.2 with ⟨h1, _⟩ | ⟨_, _, _, h1, _⟩
    · injection h1 with _ h2 h3
      exact ⟨h2, h3⟩
    · cases h1
  · rintro ad rfl j u hu
    rcases h.2 with ⟨h1, _⟩ | ⟨g, _, _, h1, _⟩
    · cases h1
    · injection h1 with h1 _ _
      injection h1 with h1
      subst h1
      exact h.cells (g := g) rfl j u hu
def RowPost (l : List H) (W : World) (e : Ending) (w' : World) : Prop :=
  ∃ A cap, e = .returned (.slice A l.length cap) ∧ w'.ownsRow W.heap.size 30 3 (.slice A l.length cap) l.length (flat l) ∧ l.length ≤ cap ∧ Below W.heap.size W w'
set_option maxHeartbeats 2000000 in
theorem clone_calls (W : World) (A : Option Addr) (cap : Nat) (l : List H) (hl : l.length ≤ 1000) (h : Rd W A cap l) :
    Calls Try.prog 65 #[.slice A l.length cap] W (RowPost l W) := by
  cases A with
  | none =>
    obtain ⟨h1, rfl⟩ := h.1 rfl
    obtain rfl : l = [] := List.eq_nil_of_length_eq_zero h1
    have heq := fun w : World => Lib.run_eql_slice_nil (P := Try.prog) w 22 30 none 0 0 0 0 Try.underlying22
    clear h h1
    go_enter Try.func65, Try.ntmps65
    go_wp2_with fail
    go_ret
    exact ⟨none, 0, rfl, ⟨rfl, .inl ⟨rfl, rfl⟩⟩, Nat.le_refl _, Below.refl _ _⟩
  | some a =>
    have heq := fun w : World => Lib.run_eql_slice_nil (P := Try.prog) w 22 30 (some a) l.length cap 0 0 Try.underlying22
    simp only [Option.isNone_some] at heq
    have hsrc : ∀ ad, some a = some ad → ∀ j u, (flat l)[j]? = some u → (W.alloc (.cells #[] 30)).cell? (ad.add j) = some u := fun ad e j u hu => by
      have := h.2 ad e j u hu
      rw [World.cell?_alloc_lt _ _ _ (World.block_lt_of_cell? _ _ this), this]
    have HSRC := Lib.hid hsrc
    clear h hsrc
    go_enter Try.func65, Try.ntmps65
    go_wp2_with (at_builtin
                 refine wpList_appS _ rfl (.tmp 5) (.tmp 6) _ rfl W.heap.size 30 (.agg #[.int .i64 0, .int .u64 0, .string ⟨#[]⟩]) 3 32 Try.underlying22 info3 rfl (by decide) _ 0 [] rfl
                   (own_empty (Nat.le_refl _) (heap_alloc_new _ _)) (some a) l.length cap (flat l) (by rw [flat_len]) rfl (fun e => by cases e) HSRC.out (flat_one l) (by omega) (by omega) (by simp) ?_
                 intro A1 cap1 w1 hown1 hc1 hb1 hs1
                 simp only [Nat.zero_add, List.nil_append] at hown1 hc1)
    go_ret
    exact ⟨A1, cap1, rfl, hown1, hc1, ((Below.refl _ _).alloc (Nat.le_refl _) _).trans hb1⟩
theorem all_calls (W : World) (B g : Nat) (v : Value) (l : List H) (h : IsSet W B g v l) : Calls Try.prog 34 #[.pointer (some ⟨g, 0, none⟩)] W (RowPost l W) := by
  obtain ⟨A, cap, rfl, hcap⟩ := Own.own_slice h.own
  have hcl := clone_calls W A cap l (by have := h.ok.len; omega) (own_rd h.own).1
  have hcell := h.blk.cell 0
  simp only [List.getElem?_toArray] at hcell
  have HC := Lib.hid hcl
  clear hcl h
  go_enter Try.func34, Try.ntmps34
  go_wp2_with fail
  refine HC.out.mono ?_; rintro e w1 ⟨A1, cap1, rfl, hown, hc, hb⟩
  go_wp2_with fail
  go_ret
  exact ⟨A1, cap1, rfl, hown, hc, hb⟩
theorem ofL_snoc : ∀ (l m : List H) (x : H), ofL m (l ++ [x]) = (putL (ofL m l) x.f0 x.f1).1
  | [], m, x => rfl
  | a :: l, m, x => ofL_snoc l _ x
def OfPost (l : List H) (W : World) (e : Ending) (w' : World) : Prop :=
  ∃ v, e = .returned (.pointer (some ⟨W.heap.size, 0, none⟩)) ∧ IsSet w' W.heap.size W.heap.size v (ofL [] l) ∧ Below W.heap.size W w'
theorem Rd.at_ {w : World} {A : Option Addr} {cap : Nat} {l : List H} (h : Rd w A cap l) {j : Nat} (hj : j < l.length) : ∃ ad, A = some ad ∧ w.cell? (ad.add (j * 3)) = some (.int .i64 l[j].f0) ∧ w.cell? ⟨(ad.add (j * 3)).block, (ad.add (j * 3)).off + 1, none⟩ = some (.int .u64 l[j].f1.f0) ∧ w.cell? ⟨(ad.add (j * 3)).block, (ad.add (j * 3)).off + 2, none⟩ = some (.string l[j].f1.f1) := by
  cases A with
  | none => have := (h.1 rfl).1; omega
  | some ad =>
    have hx := List.getElem?_eq_getElem hj
    have h1 := h.2 ad rfl _ _ (flat_get hx 1 _ rfl)
    have h2 := h.2 ad rfl _ _ (flat_get hx 2 _ rfl)
    rw [← Go.Deep.add_add] at h1 h2
    exact ⟨ad, rfl, h.2 ad rfl _ _ (flat_get hx 0 _ rfl), h1, h2⟩
set_option maxHeartbeats 2000000 in
theorem of_calls (W : World) (A : Option Addr) (cap : Nat) (l : List H) (hl : l.length ≤ 1000) (hs : ∀ x ∈ l, x.f1.f1.size ≤ 140737488355328) (h : Rd W A cap l) :
    Calls Try.prog 38 #[.slice A l.length cap] W (OfPost l W) := by
  have HR := Lib.hid h
  have HS := Lib.hid hs
  clear h hs
  go_enter Try.func38, Try.ntmps38
  go_wp2_with fail
  refine (new_calls W).mono ?_; rintro e w1 ⟨rfl, hs1, hb1, hz1⟩
  go_wp2_with fail
  go_loopw [9] (fun i wr => ∃ k : Nat, ∃ v, i = .int .i64 k ∧ k ≤ l.length ∧ IsSet wr W.heap.size W.heap.size v (ofL [] (l.take k)) ∧ Below W.heap.size W wr) (fun i _ => l.length - (intOf i).toNat)
  case atStart => exact ⟨0, _, rfl, by omega, hs1, hb1⟩
  case round =>
    clear hs1 hb1 hz1
    obtain ⟨k, v, rfl, hk, hset, hb⟩ := hrel
    by_cases hlt : k < l.length
    · have hx := HS.out _ (List.getElem_mem hlt)
      obtain ⟨ad, rfl, c0, c1, c2⟩ := HR.out.at_ hlt
      have hsn : ofL [] (l.take (k + 1)) = (putL (ofL [] (l.take k)) l[k].f0 l[k].f1).1 := by
        rw [List.take_succ_eq_append_getElem hlt, ofL_snoc]
      have HSN := Lib.hid hsn
      clear hsn
      generalize l[k] = x at hx c0 c1 c2 HSN
      have d0 := cellB hb c0
      have d1 := cellB hb c1
      have d2 := cellB hb c2
      clear c0 c1 c2
      have hb2 := hb.alloc (o := .cells #[.int .i64 x.f0, .int .u64 x.f1.f0, .string x.f1.f1] 30) hb.size
      have hset2 := hset.b (w' := wr.alloc (.cells #[.int .i64 x.f0, .int .u64 x.f1.f0, .string x.f1.f1] 30)) ((Below.refl _ _).alloc (Nat.le_refl _) _)
      have hput := put_calls _ W.heap.size W.heap.size v _ x.f0 x.f1 hset2 hx hb2.size
      have HP := Lib.hid hput
      have HS2 := Lib.hid hset2
      clear hput hset2 hset
      go_wp2_with fail
      refine HP.out.mono ?_; rintro e w2 ⟨rfl, v', hset3, hk3, _⟩
      have hb3 := hb2.trans (hk3.below HS2.out hb2.size)
      rw [← HSN.out] at hset3
      clear hk3 hb2 hb HP HS2 HSN
      go_wp2_with fail
      go_roundw
      case rel => exact ⟨k + 1, v', by go_num, by omega, hset3, hb3⟩
      case measure => simp [intOf]; omega
    · obtain rfl : k = l.length := by omega
      rw [List.take_length] at hset
      go_wp2_with fail
      go_ret
      exact ⟨v, rfl, hset, hb⟩
end Go.Proofs.Ytjohfkpgghnpeaa.SetC
end
section
namespace Go.Proofs.Ytjohfkpgghnpeaa.SetC
open Go Go.RowKit
open Go.Proofs.Ytjohfkpgghnpeaa.Gen
open Go.Proofs.Ytjohfkpgghnpeaa.Own
open Go.Proofs.Ytjohfkpgghnpeaa.RowK
open Go.Proofs.Ytjohfkpgghnpeaa.ItemC
open Go.Proofs.Ytjohfkpgghnpeaa.PRef
open Go.Proofs.Ytjohfkpgghnpeaa.ItmPr (ofL rd_at)
open Go.Proofs.YtjohfkpgghnpeaaW.PrintWords
set_option linter.unusedVariables false
theorem flat_of_reps {R : H → List Value → Prop} (hR : ∀ x c, R x c → c = hc x) {xs : List H} {inner : List Value} (h : Reps R 3 xs inner) (hl : inner.length = xs.length * 3) : inner = flat xs := by
  apply List.ext_getElem?
  intro t
  rcases Nat.lt_or_ge t (xs.length * 3) with ht | ht
  · have hj : t / 3 < xs.length := by omega
    have h2 := hR _ _ (h.2 (t / 3) _ (List.getElem?_eq_getElem hj))
    have hi : t % 3 < (hc xs[t / 3]).length := by simp [hc]; omega
    have e2 := flat_get (List.getElem?_eq_getElem hj) (t % 3) _ (List.getElem?_eq_getElem hi)
    rw [show t / 3 * 3 + t % 3 = t by omega] at e2
    rw [e2, ← List.getElem?_eq_getElem hi, ← h2, List.getElem?_take, if_pos (by omega), List.getElem?_drop, show t / 3 * 3 + t % 3 = t by omega]
  · rw [List.getElem?_eq_none (by omega), List.getElem?_eq_none (by rw [flat_len]; exact ht)]
theorem R_flat {w : World} {base : Nat} {ok : Nat → Prop} {v : Value} {xs : List H} (h : Kd.R k30 30 w base ok v xs) : w.ownsRow base 30 3 v xs.length (flat xs) ∧ ∀ k, v.ownBlock = some k → ok k := by
  obtain ⟨h0, inner, ho, hr⟩ := h
  have e := flat_of_reps (fun x c hx => k30_openM hx) hr ho.1
  subst e
  exact ⟨ho, h0⟩
theorem reps_flat (w : World) (base : Nat) (ok : Nat → Prop) (xs : List H) : Reps (k30.M w base ok) 3 xs (flat xs) :=
  ⟨flat_len xs, fun j p hj => by
    obtain ⟨hlt, rfl⟩ := List.getElem?_eq_some_iff.1 hj
    have e : ((flat xs).drop (j * 3)).take 3 = hc xs[j] := by
      rw [flat_drop, List.drop_eq_getElem_cons hlt]
      show (hc xs[j] ++ flat (xs.drop (j + 1))).take 3 = hc xs[j]
      exact List.take_left' rfl
    rw [e]
    exact k30_mkM w base ok _⟩
theorem own_R {w : World} {base : Nat} {v : Value} {xs : List H} (h : w.ownsRow base 30 3 v xs.length (flat xs)) : Kd.R k30 30 w base (fun k => v.ownBlock = some k) v xs :=
  ⟨fun k hk => hk, flat xs, h, reps_flat _ _ _ _⟩
theorem C_rd {w : World} {A : Option Addr} {cap : Nat} {l : List H} (h : Rd w A cap l) (hl : l.length ≤ 1000) : Kd.C k30 w A l.length l := by
  refine ⟨rfl, by omega, fun hn => ?_⟩
  cases A with
  | none => have := (h.1 rfl).1; omega
  | some ad => exact ⟨ad, rfl, fun j p hj => ⟨hc p, rfl, k30_mk w p, fun i u hu => h.2 ad rfl _ _ (flat_get hj i u hu)⟩⟩
def dropR (b ver : Int) : List H → List H × Bool
  | [] => ([], false)
  | h :: t => if h.f0 = b ∧ h.f1.f0 ≤ ver then ((dropR b ver t).1, true) else (h :: (dropR b ver t).1, (dropR b ver t).2)
theorem str_same (d : Nat) (s : ByteArray) (w : World) : (Op.equalIn (d + 1) 9 (.string s) (.string s)).run Try.prog w = .ok true w := by
  simp [Op.equalIn, run_underlying Try.underlying9]
  rw [beq_toListBytes]
  simp
theorem item_same (v : Int) (s : ByteArray) (w : World) : (binOp .neq 28 (.agg #[.int .u64 v, .string s]) (.agg #[.int .u64 v, .string s])).run Try.prog w = .ok (.bool false) w := by
  have h := run_equalIn_struct (P := Try.prog) w 9999 28 #[.int .u64 v, .string s] #[.int .u64 v, .string s] (by kernel_rfl) (by kernel_rfl)
  simp only [binOp, Op.equal, Op.maxDepth]
  simp only [Program.fieldsOf, Try.underlying28, Op.eqFields] at h
  have p1 : ∀ w, (part 26 #[.int .u64 v, .string s] 0).run Try.prog w = .ok (.int .u64 v) w := fun w => by kernel_rfl
  have p2 : ∀ w, (part 9 #[.int .u64 v, .string s] 1).run Try.prog w = .ok (.string s) w := fun w => by kernel_rfl
  have q1 : ∀ w, (Op.equalIn 9999 26 (.int .u64 v) (.int .u64 v)).run Try.prog w = .ok true w := fun w => by rw [run_equalIn_int w 9998 26 .u64 .u64 v v Try.underlying26]; simp
  have q2 : ∀ w, (Op.equalIn 9999 9 (.string s) (.string s)).run Try.prog w = .ok true w := fun w => str_same 9998 s w
  simp [p1, p2, q1, q2] at h
  simp [h]
end Go.Proofs.Ytjohfkpgghnpeaa.SetC
end
