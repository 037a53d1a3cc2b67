-- packed by pack.py, a program of this claim's repo
import Derived.Test.YtjohfkpgghnpeaaIqC
import Derived.Test.YtjohfkpgghnpeaaIqD
import Derived.Test.YtjohfkpgghnpeaaIqE
import Derived.Test.YtjohfkpgghnpeaaIqB
import Derived.Test.YtjohfkpgghnpeaaIqF
import Derived.Test.YtjohfkpgghnpeaaIqG
import Derived.Test.YtjohfkpgghnpeaaIqH
import Derived.Test.YtjohfkpgghnpeaaIqA
import Derived.Test.YtjohfkpgghnpeaaIqI
import Derived.Test.YtjohfkpgghnpeaaIqJ
import Derived.Test.YtjohfkpgghnpeaaIqK
import Derived.Test.YtjohfkpgghnpeaaIqL
import Derived.Test.YtjohfkpgghnpeaaIqM
import Derived.Test.YtjohfkpgghnpeaaIqN
import Derived.Test.YtjohfkpgghnpeaaIqO
import Derived.Test.YtjohfkpgghnpeaaIqP
import Derived.Test.YtjohfkpgghnpeaaIqQ
import Derived.Test.YtjohfkpgghnpeaaIqR
import Derived.Test.YtjohfkpgghnpeaaIqS
import Derived.Laws.IdiomCopy
import Derived.Lib.SliceRun
import Derived.Deep.RegionLaw
import Derived.Outline
section
namespace Go.Proofs.Ytjohfkpgghnpeaa.SetC
open Go Go.RowKit
open Go.Proofs.Ytjohfkpgghnpeaa.Gen
open Go.Proofs.Ytjohfkpgghnpeaa.Own
open Go.Proofs.Ytjohfkpgghnpeaa.RowK
open Go.Proofs.Ytjohfkpgghnpeaa.ItemC
open Go.Proofs.Ytjohfkpgghnpeaa.PRef
set_option linter.unusedVariables false
theorem setCells_row {g : Nat} {e : TypeId} : ∀ (vs : List Value) (o : Nat) (w : World) (cur : Array Value), w.heap[g]? = some (.cells cur e (0, 0)) → o + vs.length ≤ cur.size →
    ∃ cur', (w.setCells g o vs).heap[g]? = some (.cells cur' e (0, 0)) ∧ cur'.size = cur.size ∧ cur'.toList = cur.toList.take o ++ (vs ++ cur.toList.drop (o + vs.length))
  | [], o, w, cur, h, _ => ⟨cur, h, rfl, by simp⟩
  | v :: vs, o, w, cur, h, hle => by
    simp only [List.length_cons] at hle
    obtain ⟨cur', h1, h2, h3⟩ := setCells_row vs (o + 1) (w.setCell ⟨g, o, none⟩ v) (cur.setIfInBounds o v) (heap_set h v) (by simp; omega)
    refine ⟨cur', h1, by simpa using h2, ?_⟩
    have hlt : o < cur.toList.length := by simp; omega
    rw [h3, Array.toList_setIfInBounds, List.set_eq_take_append_cons_drop, if_pos hlt]
    have h5 : (cur.toList.take o ++ [v]).length = o + 1 := by rw [List.length_append, List.length_take]; simp; simp at hlt; omega
    have e1 : (cur.toList.take o ++ v :: cur.toList.drop (o + 1)).take (o + 1) = cur.toList.take o ++ [v] := by
      rw [show cur.toList.take o ++ v :: cur.toList.drop (o + 1) = (cur.toList.take o ++ [v]) ++ cur.toList.drop (o + 1) by simp]
      exact List.take_left' h5
    have e2 : (cur.toList.take o ++ v :: cur.toList.drop (o + 1)).drop (o + 1 + vs.length) = cur.toList.drop (o + (vs.length + 1)) := by
      rw [show cur.toList.take o ++ v :: cur.toList.drop (o + 1) = (cur.toList.take o ++ [v]) ++ cur.toList.drop (o + 1) by simp, ← h5, List.drop_length_add_append, h5, List.drop_drop]
      congr 1
      omega
    rw [e1, e2]
    simp
theorem heap_setCells {g : Nat} : ∀ (vs : List Value) (o : Nat) (w : World), (w.setCells g o vs).heap.size = w.heap.size ∧ (w.setCells g o vs).os = w.os ∧ (w.setCells g o vs).tape = w.tape ∧ (w.setCells g o vs).output = w.output ∧ ∀ k, k ≠ g → (w.setCells g o vs).heap[k]? = w.heap[k]?
  | [], _, _ => ⟨rfl, rfl, rfl, rfl, fun _ _ => rfl⟩
  | v :: vs, o, w => by
    obtain ⟨h1, h2, h3, h4, h5⟩ := heap_setCells vs (o + 1) (w.setCell ⟨g, o, none⟩ v)
    exact ⟨h1.trans (by simp [World.setCell]), h2, h3, h4, fun k hk => (h5 k hk).trans (Below.heap_setCell w ⟨g, o, none⟩ v k hk)⟩
theorem grown_setCells (w : World) (g o : Nat) (vs : List Value) : w.grownBy (w.setCells g o vs) (some g) := by
  obtain ⟨h1, h2, h3, h4, h5⟩ := heap_setCells (g := g) vs o w
  exact ⟨h2, h3, h4, Nat.le_of_eq h1.symm, fun k _ hne => h5 k (fun e => hne (by rw [e]))⟩
theorem grown_trans' {a b c : World} {row : Option Nat} (h : a.grownBy b row) (k : b.grownBy c row) : a.grownBy c row := ⟨k.1.trans h.1, k.2.trans h.2, k.3.trans h.3, Nat.le_trans h.4 k.4, fun i hi hne => (k.5 i (Nat.lt_of_lt_of_le hi h.4) hne).trans (h.5 i hi hne)⟩
theorem run_clear1 {P : Program} (w : World) (t e ty : TypeId) (z : Value) (ht : P.underlying t = some (.slice e)) (hv : ∀ w, (zeroValue e).run P w = .ok z w) (h1 : ∀ v ∈ z.cells.toList, v.oneCell' = true) (b o c : Nat)
    (hc : ∀ j, j < z.cells.toList.length → (w.cell? ⟨b, o + j, none⟩).isSome = true) (hf : ∀ j, j < z.cells.toList.length → w.frozen? ⟨b, o + j, none⟩ = false) :
    (Builtin.clear_ #[t] ty #[.slice (some ⟨b, o, none⟩) 1 c]).run P w = .ok (.tuple #[]) (w.setCells b o z.cells.toList) := by
  have hzc : (Builtin.zeroCells z.cells 1).toList = z.cells.toList := by
    apply List.ext_getElem
    · simp [Builtin.zeroCells]
    · intro i h1 h2
      have : i < z.cells.size := by simpa using h2
      simp [Builtin.zeroCells, Nat.mod_eq_of_lt this]
      exact getElem!_pos z.cells i this
  have hst := run_storeCells_cells (P := P) b o z.cells.toList 0 w (by simpa using hc) (by simpa using hf) h1
  simp only [Nat.add_zero] at hst
  simp [Builtin.clear_, run_underlying ht, hv, hzc, hst]
theorem zero_held : ∀ w, (zeroValue 30).run Try.prog w = .ok (.agg #[.int .i64 0, .int .u64 0, .string ⟨#[]⟩]) w := fun w => by kernel_rfl
def del (l : List H) (i : Nat) : List H := l.take i ++ l.drop (i + 1)
theorem del_len {l : List H} {i : Nat} (h : i < l.length) : (del l i).length = l.length - 1 := by unfold del; rw [List.length_append, List.length_take, List.length_drop]; omega
def DelPost (W : World) (B g cap : Nat) (l : List H) (i : Nat) (e : Ending) (w' : World) : Prop :=
  e = .returned (.slice (some ⟨g, 0, none⟩) (l.length - 1) cap) ∧ w'.ownsRow B 30 3 (.slice (some ⟨g, 0, none⟩) (l.length - 1) cap) (l.length - 1) (flat (del l i)) ∧ W.grownBy w' (some g)
theorem del_rows {W : World} {g i : Nat} {cur : Array Value} {l : List H} (hi : i < l.length) (hl : l.length * 3 ≤ cur.size) (hg : W.heap[g]? = some (.cells cur 30 (0, 0))) (hcur : cur.toList.take (l.length * 3) = flat l) :
    ∃ cur', (W.setCells g (i * 3) (flat (l.drop (i + 1)))).heap[g]? = some (.cells cur' 30 (0, 0)) ∧ cur'.size = cur.size ∧ cur'.toList.take ((l.length - 1) * 3) = flat (del l i) := by
  have hF : (flat (l.drop (i + 1))).length = (l.length - (i + 1)) * 3 := by rw [flat_len, List.length_drop]
  obtain ⟨cur', h1, h2, h3⟩ := setCells_row (flat (l.drop (i + 1))) (i * 3) W cur hg (by rw [hF]; omega)
  refine ⟨cur', h1, h2, ?_⟩
  have hA : (flat (l.take i)).length = i * 3 := by rw [flat_len, List.length_take]; omega
  have t1 : cur.toList.take (i * 3) = flat (l.take i) := by
    rw [← flat_take, ← hcur, List.take_take]
    congr 1
    omega
  rw [h3, t1, ← List.append_assoc]
  unfold del
  rw [flat_append]
  exact List.take_left' (by rw [List.length_append, hA, hF]; omega)
def zH : List Value := [.int .i64 0, .int .u64 0, .string ⟨#[]⟩]
theorem clear_last {W w : World} {g n cap : Nat} {cur : Array Value} {xs : List Value} (hg : w.heap[g]? = some (.cells cur 30 (0, 0))) (hsz : cur.size = cap * 3) (hn : n + 1 ≤ cap) (ht : cur.toList.take (n * 3) = xs) (hgr : W.grownBy w (some g)) :
    ∃ w', (∀ ty c, (Builtin.clear_ #[22] ty #[.slice (some ⟨g, n * 3, none⟩) 1 c]).run Try.prog w = .ok (.tuple #[]) w') ∧ (∃ cur', w'.heap[g]? = some (.cells cur' 30 (0, 0)) ∧ cur'.size = cap * 3 ∧ cur'.toList.take (n * 3) = xs) ∧ W.grownBy w' (some g) := by
  refine ⟨w.setCells g (n * 3) zH, fun ty c => run_clear1 w _ _ ty (.agg #[.int .i64 0, .int .u64 0, .string ⟨#[]⟩]) Try.underlying22 zero_held (fun v hv => by simp [Value.cells] at hv; rcases hv with rfl | rfl | rfl <;> rfl) g (n * 3) c (fun j hj => ?_) (fun j hj => ?_), ?_, grown_trans' hgr (grown_setCells _ _ _ _)⟩
  · simp [Value.cells] at hj
    rw [cell_blk hg, Array.getElem?_eq_getElem (by omega)]
    rfl
  · unfold World.frozen?
    rw [hg]
    simp
  · obtain ⟨cur', h1, h2, h3⟩ := setCells_row zH (n * 3) w cur hg (by simp [zH]; omega)
    refine ⟨cur', h1, by rw [h2, hsz], ?_⟩
    rw [h3, ← ht]
    exact List.take_left' (by rw [List.length_take]; simp; omega)
theorem row_is {w : World} {B g cap n : Nat} {cur : Array Value} {xs : List Value} (hx : xs.length = n * 3) (hB : B ≤ g) (hg : w.heap[g]? = some (.cells cur 30 (0, 0))) (hn : n ≤ cap) (hcm : cap ≤ maxLen) (hs : cur.size = cap * 3) (ht : cur.toList.take (n * 3) = xs) : w.ownsRow B 30 3 (.slice (some ⟨g, 0, none⟩) n cap) n xs :=
  ⟨hx, .inr ⟨g, cap, cur, rfl, hB, hg, hn, hcm, hs, ht⟩⟩
set_option maxHeartbeats 8000000 in
set_option maxRecDepth 20000 in
theorem delete_at (W : World) (B g cap n : Nat) (cur : Array Value) (l : List H) (i : Nat) (hn : l.length = n + 1) (hi : i ≤ n) (hl : n ≤ 1000) (hc : n + 1 ≤ cap) (hcm : cap ≤ maxLen) (hg : W.heap[g]? = some (.cells cur 30 (0, 0))) (hBg : B ≤ g) (hsz : cur.size = cap * 3) (hcur : cur.toList.take (l.length * 3) = flat l) :
    Calls Try.prog 61 #[.slice (some ⟨g, 0, none⟩) (n + 1) cap, .int .i64 i, .int .i64 ((i : Int) + 1)] W fun e w' => e = .returned (.slice (some ⟨g, 0, none⟩) n cap) ∧ w'.ownsRow B 30 3 (.slice (some ⟨g, 0, none⟩) n cap) n (flat (del l i)) ∧ W.grownBy w' (some g) := by
  have HCM := Lib.hid hcm
  unfold maxLen at hcm
  obtain ⟨cur', hr1, hr2, hr3⟩ := del_rows (W := W.drew) (i := i) (by omega) (by rw [hsz]; omega) hg hcur
  have hdl : (flat (del l i)).length = n * 3 := by rw [flat_len, del_len (by omega), hn]; rfl
  have hF : (flat (l.drop (i + 1))).length = (n - i) * 3 := by rw [flat_len, List.length_drop, hn]; congr 1; omega
  have hrd := reads_row hg hcur ((i + 1) * 3) (by omega)
  rw [flat_drop] at hrd
  rw [hn, show n + 1 - 1 = n by omega] at hr3
  have hFo := flat_one (l.drop (i + 1))
  have hspare : ∀ j, j < (flat (l.drop (i + 1))).length → (W.drew.cell? ⟨g, 0 + i * 3 + j, none⟩).isSome = true ∧ W.drew.frozen? ⟨g, 0 + i * 3 + j, none⟩ = false := fun j hj => by
    rw [hF] at hj
    refine ⟨?_, ?_⟩
    · have : W.drew.heap[g]? = some (.cells cur 30 (0, 0)) := hg
      rw [cell_blk this, Array.getElem?_eq_getElem (by omega)]
      rfl
    · unfold World.frozen?
      rw [show W.drew.heap[g]? = some (.cells cur 30 (0, 0)) from hg]
      simp
  obtain ⟨i0, hi0, hz0, hz1, hz2⟩ := Own.info_one info3
  have HRD := Lib.hid hrd
  have HSP := Lib.hid hspare
  have HF := Lib.hid hF
  have HDL := Lib.hid hdl
  have HN := Lib.hid hn
  have hmid : (W.drew.setCells g (i * 3) (flat (l.drop (i + 1)))).heap[g]? = some (.cells cur' 30 (0, 0)) ∧ W.grownBy (W.drew.setCells g (i * 3) (flat (l.drop (i + 1)))) (some g) := by
    exact ⟨hr1, grown_trans' (b := W.drew) ⟨rfl, rfl, rfl, Nat.le_refl _, fun _ _ _ => rfl⟩ (grown_setCells _ _ _ _)⟩
  have HMID := Lib.hid hmid
  have hnm : i + (n - i) = n := by omega
  have HNM := Lib.hid hnm
  have e3 : ((i : Int) == (i : Int) + 1) = false := by simp; omega
  have hb1 : (i : Int) ≤ (n : Int) := by omega
  have hb2 : (i : Int) + 1 ≤ (n : Int) + 1 := by omega
  have hb3 : (0 : Int) ≤ (i : Int) + 1 := by omega
  have hb4 : (i : Int) ≤ (cap : Int) := by omega
  have hb5 : (n : Int) + 1 ≤ (cap : Int) := by omega
  have ht1 : ((i : Int) + 1).toNat = i + 1 := by omega
  have hcl : ¬ cap = i := by omega
  have hcn : ¬ cap = n := by omega
  have HS := Lib.hid (show cur'.size = cap * 3 by rw [hr2, hsz])
  have HT := Lib.hid hr3
  clear hrd hspare hF hdl hn hmid hnm hr1 hr2 hr3 hsz hcur hg
  by_cases hcl2 : cap = i + 1
  · obtain rfl : i = n := by omega
    subst hcl2
    have hFo2 : (flat (l.drop (i + 1))).length = 0 * 3 := by rw [HF.out]; omega
    have hrd2 : ∀ j u, (flat (l.drop (i + 1)))[j]? = some u → W.drew.cell? ((⟨g, 0, none⟩ : Addr).add j) = some u := fun j u h => by
      have e0 : flat (l.drop (i + 1)) = [] := List.eq_nil_of_length_eq_zero (by rw [hFo2])
      rw [e0] at h
      simp at h
    have hz9 : (i : Int) ≤ (i : Int) + 1 := by omega
    have HF2 := Lib.hid hFo2
    have HRD2 := Lib.hid hrd2
    clear hFo2 hrd2
    go_enter Try.func61, Try.ntmps61
    go_wp2_with fail
    go_region_law (refine step_append_room rfl (.tmp 22) (.tmp 25) 22 rfl 30 i0 3 Try.underlying22 hi0 hz1 g 0 i (i + 1) (by simp [Act.eval, Act.put]) ⟨g, 0, none⟩ 0 0 (flat (l.drop (i + 1))) (by simp [Act.eval, Act.put]) HF2.out HRD2.out hFo (by omega) HSP.out ?_)
    refine name_exit (fun w => w.heap[g]? = some (.cells cur' 30 (0, 0)) ∧ W.grownBy w (some g)) HMID.out ?_
    rintro w4 ⟨hg4, hgr4⟩
    obtain ⟨w5, hclr, ⟨cur5, h51, h52, h53⟩, hgr5⟩ := clear_last hg4 HS.out hc HT.out hgr4
    have H51 := Lib.hid h51
    have H52 := Lib.hid h52
    have H53 := Lib.hid h53
    clear hg4 hgr4 h51 h52 h53
    go_wp2_with fail
    go_ret
    exact ⟨rfl, row_is HDL.out hBg H51.out (by omega) HCM.out H52.out H53.out, hgr5⟩
  · go_enter Try.func61, Try.ntmps61
    go_wp2_with fail
    go_region_law (refine step_append_room rfl (.tmp 22) (.tmp 25) 22 rfl 30 i0 3 Try.underlying22 hi0 hz1 g 0 i cap (by simp [Act.eval, Act.put]) ⟨g, (i + 1) * 3, none⟩ (n - i) (cap - (i + 1)) (flat (l.drop (i + 1))) (by simp [Act.eval, Act.put]) HF.out HRD.out hFo (by omega) HSP.out ?_)
    refine name_exit (fun w => w.heap[g]? = some (.cells cur' 30 (0, 0)) ∧ W.grownBy w (some g)) HMID.out ?_
    rintro w4 ⟨hg4, hgr4⟩
    obtain ⟨w5, hclr, ⟨cur5, h51, h52, h53⟩, hgr5⟩ := clear_last hg4 HS.out hc HT.out hgr4
    have H51 := Lib.hid h51
    have H52 := Lib.hid h52
    have H53 := Lib.hid h53
    clear hg4 hgr4 h51 h52 h53
    go_wp2_with fail
    go_ret
    exact ⟨rfl, row_is HDL.out hBg H51.out (by omega) HCM.out H52.out H53.out, hgr5⟩
def dropL (l : List H) (b : Int) (ver : Int) : List H × Bool :=
  if hit l b = true ∧ (getL l b).1.f0 ≤ ver then (del l (pos l b), true) else (l, false)
def DropPost (W : World) (B g : Nat) (v : Value) (l : List H) (b : Int) (ver : Int) (e : Ending) (w' : World) : Prop :=
  e = .returned (.bool (dropL l b ver).2) ∧ ∃ v', IsSet w' B g v' (dropL l b ver).1 ∧ Kept W w' g v ∧ (v'.ownBlock = v.ownBlock ∨ ∃ k, v'.ownBlock = some k ∧ W.heap.size ≤ k)
theorem del_mem {l : List H} {i : Nat} {y : H} (h : y ∈ del l i) : y ∈ l := by
  unfold del at h
  rcases List.mem_append.1 h with h | h
  · exact List.mem_of_mem_take h
  · exact List.mem_of_mem_drop h
theorem Ok.del {l : List H} (h : Ok l) (i : Nat) : Ok (del l i) := by
  refine ⟨?_, fun x hx => h.2 x (del_mem hx)⟩
  have hs : (SetC.del l i).Sublist l := by
    unfold SetC.del
    rw [show l.take i ++ l.drop (i + 1) = l.eraseIdx i from (List.eraseIdx_eq_take_drop_succ l i).symm]
    exact List.eraseIdx_sublist l i
  exact List.Pairwise.sublist hs h.1
theorem kept_of_below_then {W w1 w2 : World} {g : Nat} {v : Value} (hb : Below W.heap.size W w1) (hk : Kept w1 w2 g v) : Kept W w2 g v :=
  ⟨hk.os.trans hb.os, hk.tape.trans hb.tape, hk.output.trans hb.output, Nat.le_trans hb.size hk.size, fun k h1 h2 h3 => (hk.block k (Nat.lt_of_lt_of_le h1 hb.size) h2 h3).trans (hb.block k h1)⟩
theorem kept_setS {W w : World} {g : Nat} {v u : Value} (h : Kept W w g v) : Kept W (w.setCell ⟨g, 0, none⟩ u) g v :=
  ⟨h.os, h.tape, h.output, by have := h.size; simpa [World.setCell] using this, fun k hk hne hv => (Below.heap_setCell w ⟨g, 0, none⟩ u k hne).trans (h.block k hk hne hv)⟩
theorem move_own {w w1 : World} {base : Nat} {e : TypeId} {size n : Nat} {v : Value} {xs : List Value} (h : w.ownsRow base e size v n xs) (hm : ∀ k, v.ownBlock = some k → w1.heap[k]? = w.heap[k]?) : w1.ownsRow base e size v n xs := by
  obtain ⟨h1, h2⟩ := h
  refine ⟨h1, ?_⟩
  rcases h2 with h2 | ⟨g, cap, cur, rfl, hg, hh, r⟩
  · exact .inl h2
  · exact .inr ⟨g, cap, cur, rfl, hg, (hm g (by simp [Value.ownBlock])).trans hh, r⟩
theorem set_set {w : World} {B g g1 n cap : Nat} {u : Value} {l : List H} (hg : w.heap[g]? = some (.cells #[u] 94 (0, 0))) (hrow : w.ownsRow B 30 3 (.slice (some ⟨g1, 0, none⟩) n cap) n (flat l)) (hn : l.length = n) (hok : Ok l) (hlow : B ≤ g) (hne : g1 ≠ g) :
    IsSet (w.setCell ⟨g, 0, none⟩ (.slice (some ⟨g1, 0, none⟩) n cap)) B g (.slice (some ⟨g1, 0, none⟩) n cap) l := by
  subst hn
  refine ⟨heap_set hg _, move_own hrow (fun k hk => Below.heap_setCell w ⟨g, 0, none⟩ _ k ?_), hlow, ?_, hok⟩
  · have : g1 = k := by simpa [Value.ownBlock] using hk
    show k ≠ g
    omega
  · simpa [Value.ownBlock] using hne
set_option maxHeartbeats 4000000 in
theorem drop_calls (W : World) (B g : Nat) (v : Value) (l : List H) (b : Int) (ver : Int) (h : IsSet W B g v l) :
    Calls Try.prog 30 #[.pointer (some ⟨g, 0, none⟩), .int .i64 b, .int .u64 ver] W (DropPost W B g v l b ver) := by
  have hf := find_calls W B g v l b h
  cases hh : hit l b with
  | false =>
    have hd : dropL l b ver = (l, false) := by unfold dropL; rw [if_neg (by rw [hh]; simp)]
    unfold DropPost
    rw [hd]
    rw [hh] at hf
    have HF := Lib.hid hf
    clear hf hd
    go_enter Try.func30, Try.ntmps30
    go_wp2_with fail
    refine HF.out.mono ?_; rintro e w1 ⟨rfl, hb⟩
    go_wp2_with fail
    go_ret
    exact ⟨rfl, v, h.b hb, Kept.of_below g v hb, .inl rfl⟩
  | true =>
    obtain ⟨x, hx, hxb, hgx⟩ := hit_get hh
    have hgl : getL l b = (x.f1, true) := by unfold getL; rw [if_pos hh, hgx]
    rw [hh] at hf
    have HF := Lib.hid hf
    have hlt : pos l b < l.length := (List.getElem?_eq_some_iff.1 hx).1
    have hl := h.ok.len
    obtain ⟨g1, cap, cur, rfl, hB1, hg1, hcap, hcm, hsz, hcur⟩ := own_block h.own (by omega)
    have hne : g1 ≠ g := fun e => h.ne (by rw [e]; rfl)
    clear hf
    by_cases hver : x.f1.f0 ≤ ver
    · have hd : dropL l b ver = (del l (pos l b), true) := by unfold dropL; rw [if_pos ⟨hh, by rw [hgl]; exact hver⟩]
      unfold DropPost
      rw [hd]
      clear hd hgl
      obtain ⟨n, hn⟩ : ∃ n, l.length = n + 1 := ⟨l.length - 1, by omega⟩
      have hdel : ∀ w1 : World, Below W.heap.size W w1 → _ := fun w1 hb => delete_at w1 B g1 cap n cur l (pos l b) hn (by omega) (by omega) (by omega) hcm ((hb.block g1 (Array.getElem?_eq_some_iff.1 hg1).1).trans hg1) hB1 hsz hcur
      have HD := Lib.hid hdel
      have HO := Lib.hid h
      have HL := Lib.hid hn
      have hdl : (del l (pos l b)).length = n := by rw [del_len hlt, hn]; rfl
      have HDL := Lib.hid hdl
      have hbb : (pos l b : Int) ≤ 1000 := by omega
      rw [hn] at hlt hcap hl HO ⊢
      clear hdel h hdl hg1 hcur hsz hn
      generalize hp : pos l b = p at *
      go_enter Try.func30, Try.ntmps30
      go_wp2_with fail
      refine HF.out.mono ?_; rintro e w1 ⟨rfl, hb⟩
      have hs1 := HO.out.b hb
      have k0 : w1.cell? ⟨g, 0, none⟩ = some (.slice (some ⟨g1, 0, none⟩) (n + 1) cap) := hs1.blk.cell 0
      have k1 := hs1.blk.frozen 0
      have x1 := own_cell (n := n + 1) (by rw [← HL.out]; have := hs1.own; rwa [HL.out] at this ⊢) hx 1 _ rfl
      rw [add_lit, Nat.zero_add] at x1
      have hdw := HD.out w1 hb
      have HDW := Lib.hid hdw
      have HS1 := Lib.hid hs1
      clear hdw hs1
      have hwp : IntKind.i64.wrap ((p : Int) + 1) = (p : Int) + 1 := by rw [IntKind.wrap_i64]; omega
      go_wp2_with fail
      refine HDW.out.mono ?_; rintro e w2 ⟨rfl, hrow, hgr⟩
      have hgb : w2.heap[g]? = some (.cells #[.slice (some ⟨g1, 0, none⟩) (n + 1) cap] 94 (0, 0)) := (hgr.block g HS1.out.blk.lt (fun e => hne (by injection e with e; exact e.symm))).trans HS1.out.blk
      have k2 : w2.cell? ⟨g, 0, none⟩ = some (.slice (some ⟨g1, 0, none⟩) (n + 1) cap) := by rw [cell_blk hgb]; rfl
      have k3 : w2.frozen? ⟨g, 0, none⟩ = false := by unfold World.frozen?; rw [hgb]; simp
      have hkept : Kept W w2 g (.slice (some ⟨g1, 0, none⟩) (n + 1) cap) := kept_of_below_then hb ⟨hgr.os, hgr.tape, hgr.output, hgr.size, fun k h1 h2 h3 => hgr.block k h1 (fun e => h3 e)⟩
      clear k0 k1 x1 hgr
      go_wp2_with fail
      go_ret
      exact ⟨rfl, _, set_set hgb hrow HDL.out (HO.out.ok.del p) HO.out.low hne, kept_setS hkept, .inl rfl⟩
    · have hd : dropL l b ver = (l, false) := by unfold dropL; rw [if_neg (by rw [hgl]; exact fun e => hver e.2)]
      unfold DropPost
      rw [hd]
      clear hd hgl
      have HO := Lib.hid h
      have hbb : (pos l b : Int) ≤ 1000 := by omega
      clear h hg1 hcur hsz
      generalize hp : pos l b = p at *
      go_enter Try.func30, Try.ntmps30
      go_wp2_with fail
      refine HF.out.mono ?_; rintro e w1 ⟨rfl, hb⟩
      have hs1 := HO.out.b hb
      have k0 : w1.cell? ⟨g, 0, none⟩ = some (.slice (some ⟨g1, 0, none⟩) l.length cap) := hs1.blk.cell 0
      have x1 := own_cell hs1.own hx 1 _ rfl
      rw [add_lit, Nat.zero_add] at x1
      have HS1 := Lib.hid hs1
      clear hs1
      go_wp2_with fail
      go_ret
      exact ⟨rfl, _, HS1.out, Kept.of_below g _ hb, .inl rfl⟩
end Go.Proofs.Ytjohfkpgghnpeaa.SetC
end
