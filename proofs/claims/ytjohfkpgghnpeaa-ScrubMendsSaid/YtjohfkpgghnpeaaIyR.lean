-- packed by pack.py, a program of this claim's repo
import Derived.Test.YtjohfkpgghnpeaaIyC
import Derived.Test.YtjohfkpgghnpeaaIyD
import Derived.Test.YtjohfkpgghnpeaaIyF
import Derived.Test.YtjohfkpgghnpeaaIyB
import Derived.Test.YtjohfkpgghnpeaaIyG
import Derived.Test.YtjohfkpgghnpeaaIyH
import Derived.Test.YtjohfkpgghnpeaaIyI
import Derived.Test.YtjohfkpgghnpeaaIyA
import Derived.Test.YtjohfkpgghnpeaaIyJ
import Derived.Test.YtjohfkpgghnpeaaIyK
import Derived.Test.YtjohfkpgghnpeaaIyL
import Derived.Test.YtjohfkpgghnpeaaIyM
import Derived.Test.YtjohfkpgghnpeaaIyN
import Derived.Test.YtjohfkpgghnpeaaIyO
import Derived.Test.YtjohfkpgghnpeaaIyP
import Derived.Test.YtjohfkpgghnpeaaIyQ
import Derived.WalkSpells
import Derived.Outline
import Derived.Deep.RegionWith
import Derived.BigQuiet
import Derived.BigRegion
import Derived.Deep.RegionHeld3
section
namespace Go.Proofs.Ytjohfkpgghnpeaa.SetC
open Go Go.RowKit
open Go.Proofs.Ytjohfkpgghnpeaa.Gen
open Go.Proofs.Ytjohfkpgghnpeaa.Own
open Go.Proofs.Ytjohfkpgghnpeaa.RowK
open Go.Proofs.Ytjohfkpgghnpeaa.PRef
set_option linter.unusedVariables false
abbrev H := S30
def hc (x : H) : List Value := [.int .i64 x.f0, .int .u64 x.f1.f0, .string x.f1.f1]
def flat (l : List H) : List Value := l.flatMap hc
theorem flat_len (l : List H) : (flat l).length = l.length * 3 := by
  induction l with
  | nil => rfl
  | cons a l ih => unfold flat at ih ⊢; rw [List.flatMap_cons, List.length_append, ih]; simp [hc]; omega
theorem flat_one (l : List H) : ∀ v ∈ flat l, v.oneCell' = true := by
  intro v hv
  obtain ⟨x, _, hx⟩ := List.mem_flatMap.1 hv
  simp [hc] at hx
  rcases hx with rfl | rfl | rfl <;> rfl
theorem flat_append (a b : List H) : flat (a ++ b) = flat a ++ flat b := by unfold flat; rw [List.flatMap_append]
theorem flat_take (l : List H) (i : Nat) : (flat l).take (i * 3) = flat (l.take i) := by
  by_cases h : i ≤ l.length
  · conv => lhs; rw [← List.take_append_drop i l, flat_append]
    have : (flat (l.take i)).length = i * 3 := by rw [flat_len, List.length_take]; omega
    rw [← this, List.take_left]
  · rw [List.take_of_length_le (by rw [flat_len]; omega), List.take_of_length_le (by omega)]
theorem flat_drop (l : List H) (i : Nat) : (flat l).drop (i * 3) = flat (l.drop i) := by
  by_cases h : i ≤ l.length
  · conv => lhs; rw [← List.take_append_drop i l, flat_append]
    have : (flat (l.take i)).length = i * 3 := by rw [flat_len, List.length_take]; omega
    rw [← this, List.drop_left]
  · rw [List.drop_of_length_le (by rw [flat_len]; omega), List.drop_of_length_le (by omega)]
    rfl
def ins (l : List H) (i : Nat) (x : H) : List H := l.take i ++ x :: l.drop i
theorem ins_len (l : List H) (i : Nat) (x : H) (h : i ≤ l.length) : (ins l i x).length = l.length + 1 := by simp [ins]; omega
theorem ins_end (l : List H) (x : H) : ins l l.length x = l ++ [x] := by simp [ins]
theorem size3 : ∀ w, (sizeOf 30).run Try.prog w = .ok 3 w := fun w => by kernel_rfl
theorem info3 : (Try.prog.info? 30).map (fun i => (i.zero, i.size, i.bytes)) = some (some (.agg #[.int .i64 0, .int .u64 0, .string ⟨#[]⟩]), 3, 32) := by kernel_rfl
theorem take_of_cur {cur : Array Value} {n : Nat} {xs : List Value} (h : cur.toList.take n = xs) (j : Nat) (hj : j < n) : cur[j]? = xs[j]? := by
  rw [← h, List.getElem?_take, if_pos hj, Array.getElem?_toList]
def InsPost (W : World) (B : Nat) (v : Value) (l : List H) (i : Nat) (x : H) (e : Ending) (w' : World) : Prop :=
  ∃ v', e = .returned v' ∧ w'.ownsRow B 30 3 v' (l.length + 1) (flat (ins l i x)) ∧ W.grownBy w' v.ownBlock ∧ (v'.ownBlock = v.ownBlock ∨ v'.ownBlock = some W.heap.size)
set_option maxHeartbeats 2000000 in
theorem insert_end (W : World) (B : Nat) (v : Value) (l : List H) (x : H) (vb : Nat) (hl : l.length ≤ 1000) (hown : W.ownsRow B 30 3 v l.length (flat l)) (hx : Blk W vb 30 (hc x).toArray) (hB : B ≤ W.heap.size) :
    Calls Try.prog 63 #[v, .int .i64 l.length, .slice (some ⟨vb, 0, none⟩) 1 1] W (InsPost W B v l l.length x) := by
  obtain ⟨A, cap, rfl, hcap⟩ := own_slice hown
  have e1 : ((1 : Int) == 0) = false := by decide
  have hi := ins_end l x
  have HI := Lib.hid hi
  clear hi
  have hfl : flat [x] = hc x := by simp [flat]
  have HF := Lib.hid hfl
  clear hfl
  have hcm : (cap : Int) ≤ 9223372036854775807 := by
    rcases hown.2 with ⟨h1, _⟩ | ⟨g, c, cur, h1, _, _, _, h2, _⟩
    · injection h1 with _ _ h3
      omega
    · injection h1 with _ _ h3
      unfold maxLen at h2
      omega
  have hl2 : (l.length : Int) ≤ (cap : Int) := by omega
  by_cases hcl : cap = l.length
  · subst hcl
    go_enter Try.func63, Try.ntmps63
    go_wp2_with (at_builtin
                 refine wpList_appK _ rfl _ _ _ rfl B 30 (.agg #[.int .i64 0, .int .u64 0, .string ⟨#[]⟩]) 3 32 Try.underlying22 info3 rfl (by decide) _ l.length _ rfl hown ⟨vb, 0, none⟩ 1 1 (hc x) rfl rfl (fun j u hj => by rw [add_lit, Nat.zero_add, hx.cell, ← hj]; simp) (by intro u hu; simp [hc] at hu; rcases hu with rfl | rfl | rfl <;> rfl) (by omega) (by omega) hB ?_
                 intro A' cap' w4 hown4 hc4 hg4 hb4 hob4)
    go_ret
    exact ⟨_, rfl, by rw [HI.out, flat_append, HF.out]; exact hown4, hg4, hob4⟩
  · go_enter Try.func63, Try.ntmps63
    go_wp2_with (at_builtin
                 refine wpList_appK _ rfl _ _ _ rfl B 30 (.agg #[.int .i64 0, .int .u64 0, .string ⟨#[]⟩]) 3 32 Try.underlying22 info3 rfl (by decide) _ l.length _ rfl hown ⟨vb, 0, none⟩ 1 1 (hc x) rfl rfl (fun j u hj => by rw [add_lit, Nat.zero_add, hx.cell, ← hj]; simp) (by intro u hu; simp [hc] at hu; rcases hu with rfl | rfl | rfl <;> rfl) (by omega) (by omega) hB ?_
                 intro A' cap' w4 hown4 hc4 hg4 hb4 hob4)
    go_ret
    exact ⟨_, rfl, by rw [HI.out, flat_append, HF.out]; exact hown4, hg4, hob4⟩
theorem reads_row {w : World} {g : Nat} {cur : Array Value} {t : TypeId} (hg : w.heap[g]? = some (.cells cur t (0, 0))) {n : Nat} {xs : List Value} (h : cur.toList.take n = xs) (i : Nat) (hi : i ≤ n) : ∀ j v, (xs.drop i)[j]? = some v → w.cell? ((⟨g, i, none⟩ : Addr).add j) = some v := by
  intro j v hj
  rw [add_lit, cell_blk hg, ← hj, List.getElem?_drop]
  have hlt : i + j < xs.length := by
    rcases Nat.lt_or_ge (i + j) xs.length with h1 | h1
    · exact h1
    · rw [List.getElem?_drop, List.getElem?_eq_none h1] at hj
      cases hj
  have hxl : xs.length ≤ n := by rw [← h, List.length_take]; omega
  exact take_of_cur h _ (by omega)
theorem ins_split (l : List H) (i : Nat) (x : H) : flat (ins l i x) = flat (l.take i) ++ (hc x ++ flat (l.drop i)) := by
  unfold ins
  rw [flat_append]
  rfl
theorem ins_lay {cur : Array Value} {l : List H} {i cap : Nat} (x : H) (hi : i < l.length) (hroom : l.length + 1 ≤ cap) (hsz : cur.size = cap * 3) (hcur : cur.toList.take (l.length * 3) = flat l) :
    (lay (lay cur ((i + 1) * 3) (flat (l.drop i))) (i * 3) (hc x)).toList.take ((l.length + 1) * 3) = flat (ins l i x) := by
  have hF : (flat (l.drop i)).length = (l.length - i) * 3 := by rw [flat_len, List.length_drop]
  have hA : (flat (l.take i)).length = i * 3 := by rw [flat_len, List.length_take]; omega
  have hX : (hc x).length = 3 := rfl
  have hC : cur.toList.length = cap * 3 := by rw [Array.length_toList, hsz]
  have t1 : cur.toList.take (i * 3) = flat (l.take i) := by
    rw [← flat_take, ← hcur, List.take_take]
    congr 1
    omega
  rw [lay_toList, lay_toList, hX]
  have e1 : (cur.toList.take ((i + 1) * 3) ++ (flat (l.drop i) ++ cur.toList.drop ((i + 1) * 3 + (flat (l.drop i)).length))).take (i * 3) = flat (l.take i) := by
    rw [List.take_append_of_le_length (by rw [List.length_take]; omega), List.take_take, ← t1]
    congr 1
    omega
  have e2 : (cur.toList.take ((i + 1) * 3) ++ (flat (l.drop i) ++ cur.toList.drop ((i + 1) * 3 + (flat (l.drop i)).length))).drop (i * 3 + 3) = flat (l.drop i) ++ cur.toList.drop ((i + 1) * 3 + (flat (l.drop i)).length) := by
    have h3 : (cur.toList.take ((i + 1) * 3)).length = i * 3 + 3 := by rw [List.length_take]; omega
    rw [← h3, List.drop_left]
  rw [e1, e2, ins_split]
  have h4 : (flat (l.take i) ++ (hc x ++ flat (l.drop i))).length = (l.length + 1) * 3 := by rw [List.length_append, List.length_append, hA, hX, hF]; omega
  rw [← h4, show flat (l.take i) ++ (hc x ++ (flat (l.drop i) ++ cur.toList.drop ((i + 1) * 3 + (flat (l.drop i)).length))) = (flat (l.take i) ++ (hc x ++ flat (l.drop i))) ++ cur.toList.drop ((i + 1) * 3 + (flat (l.drop i)).length) by simp, List.take_left]
theorem hc_one (x : H) : ∀ v ∈ hc x, v.oneCell' = true := by
  intro u hu
  simp [hc] at hu
  rcases hu with rfl | rfl | rfl <;> rfl
theorem blk_reads {W : World} {vb : Nat} {x : H} (hx : Blk W vb 30 (hc x).toArray) : ∀ j u, (hc x)[j]? = some u → W.cell? ((⟨vb, 0, none⟩ : Addr).add j) = some u := fun j u hj => by
  rw [add_lit, Nat.zero_add, hx.cell, ← hj]
  simp
theorem overlaps_no (W : World) (g vb off : Nat) (cur : Array Value) (x : H) (hg : W.heap[g]? = some (.cells cur 30 (0, 0))) (hsz : cur.size ≠ 0) (hx : Blk W vb 30 (hc x).toArray) (hne : vb ≠ g) (lb cb : Nat) : (callFunc 90 #[.slice (some ⟨vb, 0, none⟩) 1 1, .slice (some ⟨g, off, none⟩) lb cb]).run Try.prog W = .ok (.value (.bool false)) W := by
  have hsb : W.shape? g = some (30, cur.size) := by unfold World.shape?; rw [hg]
  have hsa : W.shape? vb = some (30, 3) := by unfold World.shape?; rw [show W.heap[vb]? = some (.cells (hc x).toArray 30 (0, 0)) from hx]; rfl
  have hfa := hx.frozen 0
  have hfe := hx.frozen 3
  rw [run_callFunc_extern Try.func90 (by kernel_rfl) (by kernel_rfl) (by kernel_rfl) (e := Extern.SlicesOverlaps.overlaps #[22, 22] #[4]) (by kernel_rfl),
    Lib.run_overlaps_apart W 22 4 30 Try.underlying22 3 size3 ⟨vb, 0, none⟩ ⟨g, off, none⟩ 1 1 lb cb hne 30 30 3 cur.size hsa hsb hsz hfa hfe]
  rfl
theorem copy_x (W : World) (g off dl : Nat) (cur : Array Value) (vb : Nat) (x : H) (hg : W.heap[g]? = some (.cells cur 30 (0, 0))) (hdl : 1 ≤ dl) (hfit : off + 3 ≤ cur.size) (hx : Blk W vb 30 (hc x).toArray) :
    ∃ W', (∀ ty dc, (Builtin.copy_ #[22, 22] ty #[.slice (some ⟨g, off, none⟩) dl dc, .slice (some ⟨vb, 0, none⟩) 1 1]).run Try.prog W = .ok (.int .i64 1) W') ∧ W'.heap[g]? = some (.cells (lay cur off (hc x)) 30 (0, 0)) ∧ W.grownBy W' (some g) :=
  ⟨W.setRow g (lay cur off (hc x)), fun ty dc => run_copyK W 22 22 ty 30 Try.underlying22 3 size3 g off dl dc ⟨vb, 0, none⟩ 1 1 cur _ hg 1 (by simp only [Nat.min_def]; split <;> omega) (hc x) rfl (blk_reads hx) (by simp only [hc, List.length_cons, List.length_nil]; omega) (hc_one x),
    setRow_heap W g _ _ _ _ hg, ⟨rfl, rfl, rfl, by simp [World.setRow], fun i _ hi => setRow_other W g i _ (fun e => hi (by rw [e]))⟩⟩
set_option maxHeartbeats 4000000 in
set_option maxRecDepth 20000 in
theorem insert_shift (W : World) (B g cap : Nat) (cur : Array Value) (l : List H) (i : Nat) (x : H) (vb : Nat) (hi : i < l.length) (hl : l.length ≤ 1000) (hroom : l.length + 1 ≤ cap) (hcm : cap ≤ maxLen) (hg : W.heap[g]? = some (.cells cur 30 (0, 0))) (hBg : B ≤ g) (hsz : cur.size = cap * 3) (hcur : cur.toList.take (l.length * 3) = flat l)
    (hx : Blk W vb 30 (hc x).toArray) (hne : vb ≠ g) :
    Calls Try.prog 63 #[.slice (some ⟨g, 0, none⟩) l.length cap, .int .i64 i, .slice (some ⟨vb, 0, none⟩) 1 1] W (InsPost W B (.slice (some ⟨g, 0, none⟩) l.length cap) l i x) := by
  unfold maxLen at hcm
  have e1 : ((1 : Int) == 0) = false := by decide
  have e2 : ((i : Int) == (l.length : Int)) = false := by simp; omega
  have hcl : ¬ cap = i := by omega
  have hile : i ≤ l.length := by omega
  have hile1 : i ≤ l.length + 1 := by omega
  have hcl2 : ¬ cap = i + 1 := by omega
  have hw1 : IntKind.i64.wrap ((i : Int) + 1) = (i : Int) + 1 := by rw [IntKind.wrap_i64]; omega
  have ht1 : ((i : Int) + 1).toNat = i + 1 := by omega
  have hb3 : (i : Int) ≤ (l.length : Int) + 1 := by omega
  have hb4 : (0 : Int) ≤ (i : Int) + 1 := by omega
  have hF : (flat (l.drop i)).length = (l.length - i) * 3 := by rw [flat_len, List.length_drop]
  have hFo := flat_one (l.drop i)
  have hrd := reads_row hg hcur (i * 3) (by omega)
  rw [flat_drop] at hrd
  have hfin := ins_lay x hi hroom hsz hcur
  have HF := Lib.hid hF
  have HFIN := Lib.hid hfin
  clear hfin
  have hgd : W.drew.heap[g]? = some (.cells cur 30 (0, 0)) := hg
  have hrdd : ∀ j v, (flat (l.drop i))[j]? = some v → W.drew.cell? ((⟨g, i * 3, none⟩ : Addr).add j) = some v := fun j v h => hrd j v h
  have HGD := Lib.hid hgd
  have HRD := Lib.hid hrdd
  clear hgd hrdd hrd
  have hfit : (i + 1) * 3 + (flat (l.drop i)).length ≤ cur.size := by rw [hF]; omega
  have hnn : l.length - i = Nat.min (l.length + 1 - i) (l.length - i) := by simp only [Nat.min_def]; split <;> omega
  have HNN := Lib.hid hnn
  clear hnn
  have hov : ∀ lb cb, (callFunc 90 #[.slice (some ⟨vb, 0, none⟩) 1 1, .slice (some ⟨g, (i + 1) * 3, none⟩) lb cb]).run Try.prog W = .ok (.value (.bool false)) W := fun lb cb => overlaps_no W g vb ((i + 1) * 3) cur x hg (by omega) hx hne lb cb
  go_enter Try.func63, Try.ntmps63
  go_wp2_with fail
  go_region_law (refine step_copyK rfl (.tmp 73) (.tmp 76) 22 22 rfl 30 Try.underlying22 3 size3 g ((i + 1) * 3) (l.length - i) (cap - (i + 1)) ⟨g, i * 3, none⟩ (l.length + 1 - i) (cap - i) (by simp [Act.eval, Act.put]) (by simp [Act.eval, Act.put]) cur 30 HGD.out (l.length - i) HNN.out (flat (l.drop i)) HF.out HRD.out hfit hFo ?_
                 intro w4 hg4 hgr4)
  obtain ⟨w5, hcp2, hg5, hgr5⟩ := copy_x w4 g (i * 3) (l.length + 1 - i) _ vb x hg4.out (by omega) (by rw [lay_size (by rw [HF.out]; omega)]; omega) ((show Blk W.drew vb 30 (hc x).toArray from hx).grown hgr4 (by simpa using hne))
  go_wp2_with fail
  go_ret
  have hs1 : (lay cur ((i + 1) * 3) (flat (l.drop i))).size = cur.size := lay_size (by rw [HF.out]; omega)
  have hs2 : (lay (lay cur ((i + 1) * 3) (flat (l.drop i))) (i * 3) (hc x)).size = cur.size := by
    rw [lay_size, hs1]
    rw [hs1]
    simp only [hc, List.length_cons, List.length_nil]
    omega
  have h45 : W.grownBy w5 (some g) := ⟨hgr5.1.trans hgr4.1, hgr5.2.trans hgr4.2, hgr5.3.trans hgr4.3, Nat.le_trans hgr4.4 hgr5.4, fun k hk hn => (hgr5.5 k (Nat.lt_of_lt_of_le hk hgr4.4) hn).trans (hgr4.5 k hk hn)⟩
  refine ⟨_, rfl, ⟨?_, Or.inr ⟨g, cap, _, rfl, hBg, hg5, hroom, by unfold maxLen; omega, by rw [hs2, hsz], HFIN.out⟩⟩, h45, Or.inl rfl⟩
  rw [flat_len, ins_len _ _ _ hile]
theorem ins_lay2 {cur : Array Value} {l : List H} {i cap : Nat} (x : H) (hi : i < l.length) (hroom : l.length + 1 ≤ cap) (hsz : cur.size = cap * 3) (hcur : cur.toList.take (i * 3) = flat (l.take i)) :
    (lay (lay cur (i * 3) (hc x)) ((i + 1) * 3) (flat (l.drop i))).toList.take ((l.length + 1) * 3) = flat (ins l i x) := by
  have hF : (flat (l.drop i)).length = (l.length - i) * 3 := by rw [flat_len, List.length_drop]
  have hA : (flat (l.take i)).length = i * 3 := by rw [flat_len, List.length_take]; omega
  have hX : (hc x).length = 3 := rfl
  have hC : cur.toList.length = cap * 3 := by rw [Array.length_toList, hsz]
  rw [lay_toList, lay_toList, hX, hcur, ins_split]
  have e1 : (flat (l.take i) ++ (hc x ++ cur.toList.drop (i * 3 + 3))).take ((i + 1) * 3) = flat (l.take i) ++ hc x := by
    have h3 : (flat (l.take i) ++ hc x).length = (i + 1) * 3 := by rw [List.length_append, hA, hX]; omega
    rw [← List.append_assoc, ← h3, List.take_left]
  rw [e1]
  have h4 : (flat (l.take i) ++ (hc x ++ flat (l.drop i))).length = (l.length + 1) * 3 := by rw [List.length_append, List.length_append, hA, hX, hF]; omega
  rw [← h4, ← List.append_assoc (flat (l.take i) ++ hc x), List.append_assoc (flat (l.take i)) (hc x), List.take_left]
set_option maxHeartbeats 4000000 in
set_option maxRecDepth 20000 in
theorem insert_grow (W : World) (B g cap : Nat) (cur : Array Value) (l : List H) (i : Nat) (x : H) (vb : Nat) (hi : i < l.length) (hl : l.length ≤ 1000) (hcl0 : l.length ≤ cap) (hroom : cap < l.length + 1) (hg : W.heap[g]? = some (.cells cur 30 (0, 0))) (hB : B ≤ W.heap.size) (hsz : cur.size = cap * 3) (hcur : cur.toList.take (l.length * 3) = flat l)
    (hx : Blk W vb 30 (hc x).toArray) :
    Calls Try.prog 63 #[.slice (some ⟨g, 0, none⟩) l.length cap, .int .i64 i, .slice (some ⟨vb, 0, none⟩) 1 1] W (InsPost W B (.slice (some ⟨g, 0, none⟩) l.length cap) l i x) := by
  have hvlt : vb < W.heap.size := hx.lt
  have hglt : g < W.heap.size := (Array.getElem?_eq_some_iff.1 hg).1
  have e1 : ((1 : Int) == 0) = false := by decide
  have e2 : ((i : Int) == (l.length : Int)) = false := by simp; omega
  have hcl : ¬ cap = i := by omega
  have hile : i ≤ l.length := by omega
  have hicap : i ≤ cap := by omega
  have hw1 : IntKind.i64.wrap ((i : Int) + 1) = (i : Int) + 1 := by rw [IntKind.wrap_i64]; omega
  have hw2 : IntKind.i64.wrap ((l.length : Int) + 1) = (l.length : Int) + 1 := by rw [IntKind.wrap_i64]; omega
  have hw3 : IntKind.i64.wrap ((l.length : Int) + 1 - (i : Int)) = ((l.length + 1 - i : Nat) : Int) := by rw [IntKind.wrap_i64]; omega
  have ht1 : ((i : Int) + 1).toNat = i + 1 := by omega
  have hb4 : (0 : Int) ≤ (i : Int) + 1 := by omega
  have hF : (flat (l.drop i)).length = (l.length - i) * 3 := by rw [flat_len, List.length_drop]
  have hFo := flat_one (l.drop i)
  have hrd := reads_row hg hcur (i * 3) (by omega)
  rw [flat_drop] at hrd
  have htk := reads_row hg (show cur.toList.take (i * 3) = flat (l.take i) by rw [← flat_take, ← hcur, List.take_take]; congr 1; omega) 0 (by omega)
  have HF := Lib.hid hF
  have HRD := Lib.hid hrd
  have HTK := Lib.hid htk
  clear hrd htk
  have hsum : i + (l.length + 1 - i) = l.length + 1 := by omega
  go_enter Try.func63, Try.ntmps63
  go_wp2_with (at_builtin
               refine wpList_appZ _ rfl _ _ _ _ rfl 30 (.agg #[.int .i64 0, .int .u64 0, .string ⟨#[]⟩]) 3 32 Try.underlying22 Try.underlying3 info3 rfl (by decide) g i cap (flat (l.take i)) (by rw [flat_len, List.length_take]; omega) (by rfl) (fun j v hj => by have := HTK.out j v (by simpa using hj); simpa [add_lit] using this) .i64 (l.length + 1 - i) (by rfl) (by omega) (by omega) (by omega) (by decide) ?_
               rw [hsum]
               intro cap2 cur2 w2 hc2 hcm2 hsz2 htk2 hg2 hgr2 hlt2
               obtain ⟨w3, hcp1, hg3, hgr3⟩ := copy_x w2 W.heap.size (i * 3) (l.length + 1 - i) cur2 vb x hg2.out (by omega) (by omega) ((show Blk W vb 30 (hc x).toArray from hx).grown hgr2 (by simp)))
  have hcl2 : ¬ cap2 = i := by omega
  have hcl3 : ¬ cap2 = i + 1 := by omega
  have hcl4 : ¬ cap2 < i := by omega
  have hn1 : ¬ ((l.length : Int) + 1 < (i : Int)) := by omega
  have hg3d : w3.drew.heap[W.heap.size]? = some (.cells (lay cur2 (i * 3) (hc x)) 30 (0, 0)) := hg3
  have hne3 : ∀ w', w3.drew.grownBy w' (some W.heap.size) → True := fun _ _ => trivial
  have hrd3 : ∀ j v, (flat (l.drop i))[j]? = some v → w3.drew.cell? ((⟨g, i * 3, none⟩ : Addr).add j) = some v := fun j v h => by
    have h1 := HRD.out j v h
    have e2 : w2.heap[g]? = W.heap[g]? := hgr2.block g hglt (by simp)
    have e3 : w3.heap[g]? = w2.heap[g]? := hgr3.block g (Nat.lt_of_lt_of_le hglt hgr2.size) (by simp; omega)
    rw [add_lit] at h1 ⊢
    rw [← h1]
    show w3.cell? _ = _
    exact World.cell?_of_block (e3.trans e2)
  have HG3 := Lib.hid hg3d
  have HRD3 := Lib.hid hrd3
  have hfit : (i + 1) * 3 + (flat (l.drop i)).length ≤ (lay cur2 (i * 3) (hc x)).size := by
    rw [lay_size (by simp only [hc, List.length_cons, List.length_nil]; omega), hF]
    omega
  have hnn : l.length - i = Nat.min (l.length - i) (l.length + 1 - (i + 1)) := by simp only [Nat.min_def]; split <;> omega
  have HNN := Lib.hid hnn
  have hfin := ins_lay2 x hi hc2 hsz2 htk2
  have HFIN := Lib.hid hfin
  have hs3 : (lay (lay cur2 (i * 3) (hc x)) ((i + 1) * 3) (flat (l.drop i))).size = cur2.size := by rw [lay_size hfit, lay_size (by simp only [hc, List.length_cons, List.length_nil]; omega)]
  have HS3 := Lib.hid hs3
  clear hfin hnn hg3d hrd3 hs3 hF htk2
  go_region_law (refine step_copyK rfl (.tmp 50) (.tmp 53) 22 22 rfl 30 Try.underlying22 3 size3 W.heap.size ((i + 1) * 3) (l.length + 1 - (i + 1)) (cap2 - (i + 1)) ⟨g, i * 3, none⟩ (l.length - i) (cap - i) (by simp [Act.eval, Act.put]) (by simp [Act.eval, Act.put]) (lay cur2 (i * 3) (hc x)) 30 HG3.out (l.length - i) HNN.out (flat (l.drop i)) HF.out HRD3.out hfit hFo ?_
                 intro w4 hg4 hgr4)
  go_wp2_with fail
  go_ret
  have h45 : W.grownBy w4 none := ⟨hgr4.1.trans (hgr3.1.trans hgr2.1), hgr4.2.trans (hgr3.2.trans hgr2.2), hgr4.3.trans (hgr3.3.trans hgr2.3), Nat.le_trans hgr2.4 (Nat.le_trans hgr3.4 hgr4.4), fun k hk hn => (hgr4.5 k (Nat.lt_of_lt_of_le hk (Nat.le_trans hgr2.4 hgr3.4)) (by simp; omega)).trans ((hgr3.5 k (Nat.lt_of_lt_of_le hk hgr2.4) (by simp; omega)).trans (hgr2.5 k hk hn))⟩
  refine ⟨_, rfl, ⟨?_, Or.inr ⟨W.heap.size, cap2, _, rfl, hB, hg4.out, hc2, hcm2, by rw [HS3.out, hsz2], HFIN.out⟩⟩, ⟨h45.1, h45.2, h45.3, h45.4, fun k hk _ => h45.5 k hk (by simp)⟩, Or.inr rfl⟩
  rw [flat_len, ins_len _ _ _ hile]
end Go.Proofs.Ytjohfkpgghnpeaa.SetC
end
section
namespace Go.Proofs.Ytjohfkpgghnpeaa.SetC
open Go Go.RowKit
open Go.Proofs.Ytjohfkpgghnpeaa.PRef
open Go.Proofs.Ytjohfkpgghnpeaa.PBs
set_option linter.unusedVariables false
def pos (l : List H) (b : Int) : Nat := (l.takeWhile fun h => decide (h.f0 < b)).length
def hit (l : List H) (b : Int) : Bool := match l[pos l b]? with
  | some h => h.f0 == b
  | none => false
def Rise (l : List H) : Prop := l.Pairwise fun a b => a.f0 < b.f0
theorem pos_le (l : List H) (b : Int) : pos l b ≤ l.length := by
  unfold pos
  exact (List.takeWhile_sublist _).length_le
theorem pos_is (b : Int) : ∀ (l : List H) (i : Nat), i ≤ l.length → (∀ t, t < i → ∀ h, l[t]? = some h → h.f0 < b) → (∀ h, l[i]? = some h → b ≤ h.f0) → pos l b = i
  | [], i, hi, _, _ => by simp at hi; subst hi; rfl
  | a :: l, 0, _, _, h2 => by
    have := h2 a rfl
    unfold pos
    rw [List.takeWhile_cons_of_neg (by simp; omega)]
    rfl
  | a :: l, i + 1, hi, h1, h2 => by
    have h0 := h1 0 (by omega) a rfl
    have ih := pos_is b l i (by simpa using hi) (fun t ht h hh => h1 (t + 1) (by omega) h (by simpa using hh)) (fun h hh => h2 h (by simpa using hh))
    unfold pos at ih ⊢
    rw [List.takeWhile_cons_of_pos (by simpa using h0), List.length_cons, ih]
theorem find1 (a b : Int) (c : ByteArray) (x : Int) : items_Set_find_1.f a b c x = some (if a < x then -1 else if a > x then 1 else 0) := by
  simp [items_Set_find_1.f, cmp_Compare_int.f, cmp_isNaN_int.f]
  split
  · rfl
  · split <;> rfl
theorem mid_is (i j : Nat) (hi : i ≤ 1000) (hj : j ≤ 1000) : wrap64 ((IntKind.u64.wrap (wrap64 ((i : Int) + (j : Int)))) / 2) = ((((i + j) / 2 : Nat)) : Int) := by
  rw [IntKind.wrap_u64]
  unfold wrap64
  omega
theorem mid1_is (m : Nat) (hi : m ≤ 1000) : wrap64 ((m : Int) + 1) = ((m + 1 : Nat) : Int) := by
  unfold wrap64
  omega
theorem rd_is {l : List H} {i : Nat} {x : H} (h : l[i]? = some x) : rd_T30 l (i : Int) = x := by
  unfold rd_T30
  rw [List.getD_eq_getElem?_getD, Int.toNat_natCast, h]
  rfl
theorem bs_is (l : List H) (b : Int) (hl : l.length ≤ 1000) (hs : Rise l) : ∀ (m i j : Nat), j - i ≤ m → i ≤ j → j ≤ l.length → (∀ t, t < i → ∀ h, l[t]? = some h → h.f0 < b) → (∀ t, j ≤ t → ∀ h, l[t]? = some h → b ≤ h.f0) → api_Held_int.l0 (m + 1) l b (l.length : Int) (i : Int) (j : Int) = some ((pos l b : Int), hit l b) := by
  have hs' := List.pairwise_iff_getElem.1 hs
  intro m
  induction m with
  | zero =>
    intro i j h0 hij hj h1 h2
    obtain rfl : i = j := by omega
    have hp := pos_is b l i hj h1 (fun h hh => h2 i (Nat.le_refl i) h hh)
    unfold api_Held_int.l0
    rw [if_neg (by omega)]
    unfold hit
    rw [hp]
    by_cases hlt : i < l.length
    · have hx : l[i]? = some l[i] := List.getElem?_eq_getElem hlt
      have hb := h2 i (Nat.le_refl i) _ hx
      rw [if_pos (by omega), if_pos (by omega), if_pos (by omega), find1, rd_is hx, hx]
      simp only [Option.bind_some]
      congr 2
      split
      · omega
      · split
        · rename_i h3
          have : (l[i].f0 == b) = false := by simp; omega
          rw [this]
          rfl
        · have : (l[i].f0 == b) = true := by simp; omega
          rw [this]
          rfl
    · rw [if_neg (by omega), List.getElem?_eq_none (by omega)]
  | succ m ih =>
    intro i j h0 hij hj h1 h2
    by_cases hlt : i < j
    · have hm1 : (i + j) / 2 < l.length := by omega
      have hx : l[(i + j) / 2]? = some l[(i + j) / 2] := List.getElem?_eq_getElem hm1
      unfold api_Held_int.l0
      rw [if_pos (by omega), mid_is i j (by omega) (by omega), if_pos (by omega), if_pos (by omega), find1, rd_is hx]
      simp only [Option.bind_some]
      by_cases hc : l[(i + j) / 2].f0 < b
      · rw [if_pos hc, if_pos (by decide), mid1_is _ (by omega)]
        refine ih _ _ (by omega) (by omega) hj (fun t ht h hh => ?_) h2
        obtain ⟨ht1, rfl⟩ := List.getElem?_eq_some_iff.1 hh
        rcases Nat.lt_or_ge t ((i + j) / 2) with h3 | h3
        · have := hs' t ((i + j) / 2) ht1 hm1 h3
          omega
        · obtain rfl : t = (i + j) / 2 := by omega
          exact hc
      · rw [if_neg hc, if_neg (by split <;> decide)]
        refine ih _ _ (by omega) (by omega) (by omega) h1 (fun t ht h hh => ?_)
        obtain ⟨ht1, rfl⟩ := List.getElem?_eq_some_iff.1 hh
        rcases Nat.lt_or_ge ((i + j) / 2) t with h3 | h3
        · have := hs' ((i + j) / 2) t hm1 ht1 h3
          omega
        · obtain rfl : t = (i + j) / 2 := by omega
          omega
    · obtain rfl : i = j := by omega
      have := ih i i (by omega) (by omega) hj h1 h2
      exact api_Held_int.mono_l (m + 1) _ _ _ _ _ _ this
theorem bs_f (l : List H) (b : Int) (hl : l.length ≤ 1000) (hs : Rise l) : api_Held_int.f (l.length + 1) l b = some ((pos l b : Int), hit l b) :=
  bs_is l b hl hs l.length 0 l.length (by omega) (by omega) (Nat.le_refl _) (fun t ht => by omega) (fun t ht h hh => by rw [List.getElem?_eq_none ht] at hh; cases hh)
end Go.Proofs.Ytjohfkpgghnpeaa.SetC
end
section
namespace Go.Proofs.Ytjohfkpgghnpeaa.SetC
open Go Go.RowKit
open Go.Proofs.Ytjohfkpgghnpeaa.Gen
open Go.Proofs.Ytjohfkpgghnpeaa.Own
open Go.Proofs.Ytjohfkpgghnpeaa.RowK
open Go.Proofs.Ytjohfkpgghnpeaa.ItemC
open Go.Proofs.Ytjohfkpgghnpeaa.PRef
open Go.Proofs.Ytjohfkpgghnpeaa.PBs
open Go.Proofs.YtjohfkpgghnpeaaW.PrintWords
set_option linter.unusedVariables false
abbrev It := S28
theorem insert_any (W : World) (B : Nat) (v : Value) (l : List H) (i : Nat) (x : H) (vb : Nat) (hi : i ≤ l.length) (hl : l.length ≤ 1000) (hown : W.ownsRow B 30 3 v l.length (flat l)) (hx : Blk W vb 30 (hc x).toArray) (hne : some vb ≠ v.ownBlock) (hB : B ≤ W.heap.size) :
    Calls Try.prog 63 #[v, .int .i64 i, .slice (some ⟨vb, 0, none⟩) 1 1] W (InsPost W B v l i x) := by
  rcases Nat.lt_or_ge i l.length with h | h
  · obtain ⟨g, cap, cur, rfl, hBg, hg, hc, hcm, hsz, hcur⟩ := own_block hown (by omega)
    rcases Nat.lt_or_ge cap (l.length + 1) with h2 | h2
    · exact insert_grow W B g cap cur l i x vb h hl hc h2 hg hB hsz hcur hx
    · exact insert_shift W B g cap cur l i x vb h hl h2 hcm hg hBg hsz hcur hx (fun e => hne (by rw [e]; rfl))
  · obtain rfl : i = l.length := by omega
    exact insert_end W B v l x vb hl hown hx hB
def Ok (l : List H) : Prop := Rise l ∧ ∀ x ∈ l, 0 ≤ x.f0 ∧ x.f0 < 64
theorem rise_ge {l : List H} (h : Ok l) : ∀ i (hi : i < l.length), (i : Int) ≤ l[i].f0
  | 0, hi => (h.2 _ (List.getElem_mem hi)).1
  | i + 1, hi => by
    have ih := rise_ge h i (by omega)
    have := List.pairwise_iff_getElem.1 h.1 i (i + 1) (by omega) hi (by omega)
    omega
theorem Ok.len {l : List H} (h : Ok l) : l.length ≤ 64 := by
  rcases Nat.lt_or_ge 64 l.length with h1 | h1
  · have h2 := rise_ge h 64 h1
    have h3 := (h.2 _ (List.getElem_mem h1)).2
    omega
  · exact h1
structure IsSet (w : World) (B g : Nat) (v : Value) (l : List H) : Prop where
  blk : Blk w g 94 #[v]
  own : w.ownsRow B 30 3 v l.length (flat l)
  low : B ≤ g
  ne : v.ownBlock ≠ some g
  ok : Ok l
structure Kept (W w' : World) (g : Nat) (v : Value) : Prop where
  os : w'.os = W.os
  tape : w'.tape = W.tape
  output : w'.output = W.output
  size : W.heap.size ≤ w'.heap.size
  block : ∀ k, k < W.heap.size → k ≠ g → some k ≠ v.ownBlock → w'.heap[k]? = W.heap[k]?
theorem flat_get {l : List H} {j : Nat} {x : H} (h : l[j]? = some x) (i : Nat) (u : Value) (hu : (hc x)[i]? = some u) : (flat l)[j * 3 + i]? = some u := by
  obtain ⟨hj, rfl⟩ := List.getElem?_eq_some_iff.1 h
  rw [← List.getElem?_drop, flat_drop, List.drop_eq_getElem_cons hj]
  show (hc l[j] ++ flat (l.drop (j + 1)))[i]? = some u
  rw [List.getElem?_append_left]
  · exact hu
  · exact (List.getElem?_eq_some_iff.1 hu).1
theorem own_cell {w : World} {B n cap : Nat} {a : Addr} {l : List H} (h : w.ownsRow B 30 3 (.slice (some a) n cap) l.length (flat l)) {j : Nat} {x : H} (hj : l[j]? = some x) (i : Nat) (u : Value) (hu : (hc x)[i]? = some u) : w.cell? (a.add (j * 3 + i)) = some u := by
  have hjl : j < l.length := (List.getElem?_eq_some_iff.1 hj).1
  obtain ⟨g, cap', cur, hv, _, hg, _, _, _, hcur⟩ := own_block h (by omega)
  injection hv with hv1 hv2 hv3
  injection hv1 with hv1
  subst hv1
  rw [add_lit, Nat.zero_add, cell_blk hg]
  have hi : i < 3 := (List.getElem?_eq_some_iff.1 hu).1
  rw [take_of_cur hcur _ (by omega)]
  exact flat_get hj i u hu
theorem C_own {w : World} {B cap : Nat} {A : Option Addr} {l : List H} (h : w.ownsRow B 30 3 (.slice A l.length cap) l.length (flat l)) (hl : l.length ≤ 1000) : Kd.C k30 w A l.length l := by
  refine ⟨rfl, by omega, fun hn => ?_⟩
  obtain ⟨g, cap', cur, hv, _, hg, _, _, _, hcur⟩ := own_block h hn
  injection hv with hv1 hv2 hv3
  subst hv1
  refine ⟨_, rfl, fun j p hj => ⟨hc p, rfl, k30_mk w p, fun i u hu => ?_⟩⟩
  exact own_cell h hj i u hu
set_option maxHeartbeats 2000000 in
theorem find_calls (W : World) (B g : Nat) (v : Value) (l : List H) (b : Int) (h : IsSet W B g v l) :
    Calls Try.prog 60 #[.pointer (some ⟨g, 0, none⟩), .int .i64 b] W fun e w' => e = .returned (.tuple #[.int .i64 (pos l b), .bool (hit l b)]) ∧ Below W.heap.size W w' := by
  obtain ⟨A, cap, rfl, hcap⟩ := Own.own_slice h.own
  have hl := h.ok.len
  have hbs := bs_f l b (by omega) h.ok.1
  have hC := C_own h.own (by omega)
  have hcell := h.blk.cell 0
  simp only [List.getElem?_toArray] at hcell
  have HC := Lib.hid hC
  have HBS := Lib.hid hbs
  clear hC hbs h
  go_enter Try.func60, Try.ntmps60
  go_wp2_with (go_at_call 87; (refine (api_Held_int.calls _ A cap l b _ _ _ HC.out hcap HBS.out).mono ?_); rintro e w1 ⟨rfl, hb⟩)
  exact bodyPost_ret (v := .tuple #[.int .i64 (pos l b), .bool (hit l b)]) (by simp [results, Try.results60, go_sem]) rfl ⟨rfl, hb⟩
theorem IsSet.b {w w' : World} {B g : Nat} {v : Value} {l : List H} (h : IsSet w B g v l) (hb : Below w.heap.size w w') : IsSet w' B g v l :=
  ⟨h.blk.b hb, own_move h.own (fun k hk => hb.block k (h.own.lt k hk).2), h.low, h.ne, h.ok⟩
theorem new_calls (W : World) : Calls Try.prog 28 #[] W fun e w' => e = .returned (.pointer (some ⟨W.heap.size, 0, none⟩)) ∧ IsSet w' W.heap.size W.heap.size (.slice none 0 0) [] ∧ Below W.heap.size W w' ∧ w'.heap.size = W.heap.size + 1 := by
  go_enter Try.func28, Try.ntmps28
  go_wp2_with fail
  go_ret
  exact ⟨rfl, ⟨Blk.fresh W _ _, ⟨rfl, Or.inl ⟨rfl, rfl⟩⟩, Nat.le_refl _, by simp [Value.ownBlock], ⟨List.Pairwise.nil, by simp⟩⟩, (Below.refl _ W).alloc (Nat.le_refl _) _, by simp⟩
def z : H := ⟨0, ⟨0, ⟨#[]⟩⟩⟩
def getL (l : List H) (b : Int) : It × Bool := if hit l b = true then ((l.getD (pos l b) z).f1, true) else (⟨0, ⟨#[]⟩⟩, false)
theorem hit_get {l : List H} {b : Int} (h : hit l b = true) : ∃ x, l[pos l b]? = some x ∧ x.f0 = b ∧ l.getD (pos l b) z = x := by
  unfold hit at h
  cases hx : l[pos l b]? with
  | none => rw [hx] at h; cases h
  | some x =>
    rw [hx] at h
    exact ⟨x, rfl, by simpa using h, by rw [List.getD_eq_getElem?_getD, hx]; rfl⟩
theorem set2B {W w1 : World} (hb : Below W.heap.size W w1) (u v : Value) : Below W.heap.size W ((w1.setCell ⟨W.heap.size, 0, none⟩ u).setCell ⟨W.heap.size, 1, none⟩ v) := (hb.setCell (p := ⟨W.heap.size, 0, none⟩) (Nat.le_refl _) u).setCell (p := ⟨W.heap.size, 1, none⟩) (Nat.le_refl _) v
set_option maxHeartbeats 2000000 in
theorem get_calls (W : World) (B g : Nat) (v : Value) (l : List H) (b : Int) (h : IsSet W B g v l) :
    Calls Try.prog 32 #[.pointer (some ⟨g, 0, none⟩), .int .i64 b] W fun e w' => e = .returned (.tuple #[.agg #[.int .u64 (getL l b).1.f0, .string (getL l b).1.f1], .bool (getL l b).2]) ∧ Below W.heap.size W w' := by
  have hf := fun (w1 : World) (h1 : IsSet w1 B g v l) => find_calls w1 B g v l b h1
  obtain ⟨w0, hw0⟩ : ∃ w0, w0 = W.alloc (.cells #[.int .u64 0, .string ⟨#[]⟩] 28) := ⟨_, rfl⟩
  have hb0 : Below W.heap.size W w0 := by rw [hw0]; exact (Below.refl _ W).alloc (Nat.le_refl _) _
  have hs0 : IsSet w0 B g v l := h.b hb0
  have hk0 : Blk w0 W.heap.size 28 #[.int .u64 0, .string ⟨#[]⟩] := by rw [hw0]; exact Blk.fresh W _ _
  have HF := Lib.hid hf
  clear hf h
  unfold getL
  cases hh : hit l b with
  | false =>
    rw [hh] at HF
    go_enter Try.func32, Try.ntmps32
    go_wp2_with fail
    rw [← hw0]
    refine (HF.out _ hs0).mono ?_; rintro e w1 ⟨rfl, hb⟩
    have hk1 := hk0.b hb
    have k0 := hk1.cell 0
    have k1 := hk1.cell 1
    have k2 := hk1.frozen 0
    have k3 := hk1.frozen 1
    have hb1 := hb0.trans (hb.mono (by rw [hw0]; simp))
    clear hk0 hb hb0 hw0 hs0 HF
    go_wp2_with fail
    exact bodyPost_ret (v := .tuple #[.agg #[.int .u64 0, .string ⟨#[]⟩], .bool false]) (by simp [results, Try.results32, go_sem, k0, k1]) rfl ⟨rfl, set2B hb1 _ _⟩
  | true =>
    obtain ⟨x, hx, hxb, hgx⟩ := hit_get hh
    rw [hgx]
    rw [hh] at HF
    obtain ⟨A, cap, rfl, hcap⟩ := Own.own_slice hs0.own
    have hlt : pos l b < l.length := (List.getElem?_eq_some_iff.1 hx).1
    have hl := hs0.ok.len
    obtain ⟨g1, rfl⟩ : ∃ g1, A = some ⟨g1, 0, none⟩ := by
      obtain ⟨g1, _, _, hv, _⟩ := own_block hs0.own (by omega)
      injection hv with hv1
      exact ⟨_, hv1⟩
    go_enter Try.func32, Try.ntmps32
    go_wp2_with fail
    rw [← hw0]
    refine (HF.out _ hs0).mono ?_; rintro e w1 ⟨rfl, hb⟩
    have hk1 := hk0.b hb
    have hs1 := hs0.b hb
    have k0 := hk1.cell 0
    have k1 := hk1.cell 1
    have k2 := hk1.frozen 0
    have k3 := hk1.frozen 1
    have s0 := hs1.blk.cell 0
    simp only [List.getElem?_toArray] at s0
    have x1 := own_cell hs1.own hx 1 _ rfl
    have x2 := own_cell hs1.own hx 2 _ rfl
    rw [add_lit, Nat.zero_add] at x1 x2
    have hb1 := hb0.trans (hb.mono (by rw [hw0]; simp))
    clear hk0 hb hb0 hw0 hs0 HF hs1
    go_wp2_with fail
    exact bodyPost_ret (v := .tuple #[.agg #[.int .u64 x.f1.f0, .string x.f1.f1], .bool true]) (by simp [results, Try.results32, go_sem, k0, k1]) rfl ⟨rfl, set2B hb1 _ _⟩
def putL (l : List H) (b : Int) (x : It) : List H × Bool :=
  if b < 0 ∨ 64 ≤ b ∨ mayB x.f1.data.toList = false then (l, false)
  else if hit l b = false then (ins l (pos l b) ⟨b, x⟩, true)
  else if (getL l b).1.f0 < x.f0 then (l.set (pos l b) ⟨b, x⟩, true)
  else (l, false)
theorem Kept.of_below {W w' : World} (g : Nat) (v : Value) (h : Below W.heap.size W w') : Kept W w' g v := ⟨h.os, h.tape, h.output, h.size, fun k hk _ _ => h.block k hk⟩
def PutPost (W : World) (B g : Nat) (v : Value) (l : List H) (b : Int) (x : It) (e : Ending) (w' : World) : Prop :=
  e = .returned (.bool (putL l b x).2) ∧ ∃ v', IsSet w' B g v' (putL l b x).1 ∧ Kept W w' g v ∧ (v'.ownBlock = v.ownBlock ∨ ∃ k, v'.ownBlock = some k ∧ W.heap.size ≤ k)
set_option maxHeartbeats 2000000 in
theorem put_no (W : World) (B g : Nat) (v : Value) (l : List H) (b : Int) (x : It) (h : IsSet W B g v l) (hd : x.f1.size ≤ 140737488355328) (hno : b < 0 ∨ 64 ≤ b ∨ mayB x.f1.data.toList = false) :
    Calls Try.prog 31 #[.pointer (some ⟨g, 0, none⟩), .int .i64 b, .agg #[.int .u64 x.f0, .string x.f1]] W (PutPost W B g v l b x) := by
  have hp : putL l b x = (l, false) := by unfold putL; rw [if_pos hno]
  unfold PutPost
  rw [hp]
  clear hp
  obtain ⟨w0, hw0⟩ : ∃ w0, w0 = W.alloc (.cells #[.int .u64 x.f0, .string x.f1] 28) := ⟨_, rfl⟩
  have hb0 : Below W.heap.size W w0 := by rw [hw0]; exact (Below.refl _ W).alloc (Nat.le_refl _) _
  have hk0 : Blk w0 W.heap.size 28 #[.int .u64 x.f0, .string x.f1] := by rw [hw0]; exact Blk.fresh W _ _
  have hfin : ∀ w', Below W.heap.size W w' → ∃ v', IsSet w' B g v' l ∧ Kept W w' g v ∧ (v'.ownBlock = v.ownBlock ∨ ∃ k, v'.ownBlock = some k ∧ W.heap.size ≤ k) := fun w' hb => ⟨v, h.b hb, Kept.of_below g v hb, Or.inl rfl⟩
  have HFIN := Lib.hid hfin
  clear hfin h
  by_cases h1 : b < 0
  · clear hno
    go_enter Try.func31, Try.ntmps31
    go_wp2_with fail
    go_ret
    rw [← hw0]
    exact ⟨rfl, HFIN.out _ hb0⟩
  by_cases h2 : 64 ≤ b
  · clear hno
    go_enter Try.func31, Try.ntmps31
    go_wp2_with fail
    go_ret
    rw [← hw0]
    exact ⟨rfl, HFIN.out _ hb0⟩
  have h3 : mayB x.f1.data.toList = false := by rcases hno with h | h | h; exact absurd h h1; exact absurd h h2; exact h
  have hm : Gv.item_May.f x.f0 x.f1 = some false := by unfold Gv.item_May.f; rw [if_pos hd, h3]
  have k0 := hk0.cell 0
  have k1 := hk0.cell 1
  clear hno h3 hk0
  have HM := Lib.hid hm
  clear hm
  go_enter Try.func31, Try.ntmps31
  go_wp2_with fail
  rw [← hw0]
  refine (Gv.item_May.calls _ _ _ _ HM.out).mono ?_; rintro e w1 ⟨rfl, hb⟩
  have hb1 := hb0.trans (hb.mono (by rw [hw0]; simp))
  clear hb hb0 hw0 k0 k1
  go_wp2_with fail
  go_ret
  exact ⟨rfl, HFIN.out _ hb1⟩
structure PutSt (W : World) (B g : Nat) (v : Value) (l : List H) (x : It) (w' : World) : Prop where
  below : Below W.heap.size W w'
  set : IsSet w' B g v l
  box : Blk w' W.heap.size 28 #[.int .u64 x.f0, .string x.f1]
  size : W.heap.size ≤ w'.heap.size
theorem PutSt.b {W : World} {B g : Nat} {v : Value} {l : List H} {x : It} {w w' : World} (h : PutSt W B g v l x w) (hb : Below w.heap.size w w') : PutSt W B g v l x w' := ⟨h.below.trans (hb.mono h.size), h.set.b hb, h.box.b hb, Nat.le_trans h.size hb.size⟩
theorem put_cells {W : World} {B g g1 cap : Nat} {l : List H} {x : It} {b : Int} {y : H} (hy : l[pos l b]? = some y) {w' : World} (h : PutSt W B g (.slice (some ⟨g1, 0, none⟩) l.length cap) l x w') :
    w'.cell? ⟨W.heap.size, 0, none⟩ = some (.int .u64 x.f0) ∧ w'.cell? ⟨W.heap.size, 1, none⟩ = some (.string x.f1) ∧ w'.cell? ⟨g, 0, none⟩ = some (.slice (some ⟨g1, 0, none⟩) l.length cap) ∧ w'.cell? ⟨g1, pos l b * 3 + 1, none⟩ = some (.int .u64 y.f1.f0) ∧ w'.cell? ⟨g1, pos l b * 3 + 2, none⟩ = some (.string y.f1.f1) ∧ PutSt W B g (.slice (some ⟨g1, 0, none⟩) l.length cap) l x w' := by
  have x1 := own_cell h.set.own hy 1 _ rfl
  have x2 := own_cell h.set.own hy 2 _ rfl
  rw [add_lit, Nat.zero_add] at x1 x2
  exact ⟨h.box.cell 0, h.box.cell 1, h.set.blk.cell 0, x1, x2, h⟩
theorem put_old (W : World) (B g : Nat) (v : Value) (l : List H) (b : Int) (x : It) (h : IsSet W B g v l) (hd : x.f1.size ≤ 140737488355328) (h1 : ¬ b < 0) (h2 : ¬ 64 ≤ b) (h3 : mayB x.f1.data.toList = true) (hh : hit l b = true) (hnew : ¬ (getL l b).1.f0 < x.f0) :
    Calls Try.prog 31 #[.pointer (some ⟨g, 0, none⟩), .int .i64 b, .agg #[.int .u64 x.f0, .string x.f1]] W (PutPost W B g v l b x) := by
  have hp : putL l b x = (l, false) := by unfold putL; rw [if_neg (by rw [h3]; simp; omega), if_neg (by rw [hh]; simp), if_neg hnew]
  unfold PutPost
  rw [hp]
  clear hp
  obtain ⟨y, hy, hyb, hgy⟩ := hit_get hh
  have hgl : getL l b = (y.f1, true) := by unfold getL; rw [if_pos hh, hgy]
  rw [hgl] at hnew
  obtain ⟨w0, hw0⟩ : ∃ w0, w0 = W.alloc (.cells #[.int .u64 x.f0, .string x.f1] 28) := ⟨_, rfl⟩
  have hb0 : Below W.heap.size W w0 := by rw [hw0]; exact (Below.refl _ W).alloc (Nat.le_refl _) _
  have hk0 : Blk w0 W.heap.size 28 #[.int .u64 x.f0, .string x.f1] := by rw [hw0]; exact Blk.fresh W _ _
  have hfin : ∀ w', Below W.heap.size W w' → ∃ v', IsSet w' B g v' l ∧ Kept W w' g v ∧ (v'.ownBlock = v.ownBlock ∨ ∃ k, v'.ownBlock = some k ∧ W.heap.size ≤ k) := fun w' hb => ⟨v, h.b hb, Kept.of_below g v hb, Or.inl rfl⟩
  have HFIN := Lib.hid hfin
  have hs0 : IsSet w0 B g v l := h.b hb0
  have hsz0 : W.heap.size ≤ w0.heap.size := hb0.size
  clear hfin h
  have hm : Gv.item_May.f x.f0 x.f1 = some true := by unfold Gv.item_May.f; rw [if_pos hd, h3]
  have HM := Lib.hid hm
  have hf := fun (w1 : World) (h1 : IsSet w1 B g v l) => find_calls w1 B g v l b h1
  rw [hh] at hf
  have HF := Lib.hid hf
  obtain ⟨A, cap, rfl, hcap⟩ := Own.own_slice hs0.own
  have hlt : pos l b < l.length := (List.getElem?_eq_some_iff.1 hy).1
  obtain ⟨g1, rfl⟩ : ∃ g1, A = some ⟨g1, 0, none⟩ := by
    obtain ⟨g1, _, _, hv, _⟩ := own_block hs0.own (by omega)
    injection hv with hv1
    exact ⟨_, hv1⟩
  have hl := hs0.ok.len
  have k0 := hk0.cell 0
  have k1 := hk0.cell 1
  clear hm h3 hf
  go_enter Try.func31, Try.ntmps31
  go_wp2_with fail
  rw [← hw0]
  clear hw0
  refine (Gv.item_May.calls _ _ _ _ HM.out).mono ?_; rintro e w1 ⟨rfl, hb⟩
  have hb1 := hb0.trans (hb.mono hsz0)
  have hs1 := hs0.b hb
  have hk1 := hk0.b hb
  have hsz1 := Nat.le_trans hsz0 hb.size
  clear hb hb0 k0 k1 hs0 hk0 hsz0
  go_wp2_with fail
  refine (HF.out _ hs1).mono ?_; rintro e w2 ⟨rfl, hb⟩
  have hb2 := hb1.trans (hb.mono hsz1)
  have hs2 := hs1.b hb
  have hk2 := hk1.b hb
  clear hb hb1 hs1 hk1 hsz1
  have k0 : w2.cell? ⟨W.heap.size, 0, none⟩ = some (.int .u64 x.f0) := hk2.cell 0
  have k1 : w2.cell? ⟨W.heap.size, 1, none⟩ = some (.string x.f1) := hk2.cell 1
  have s0 : w2.cell? ⟨g, 0, none⟩ = some (.slice (some ⟨g1, 0, none⟩) l.length cap) := hs2.blk.cell 0
  have x0 := own_cell hs2.own hy 0 _ rfl
  have x1 := own_cell hs2.own hy 1 _ rfl
  have x2 := own_cell hs2.own hy 2 _ rfl
  rw [add_lit, Nat.zero_add] at x0 x1 x2
  go_wp2_with fail
  have hst : PutSt W B g (.slice (some ⟨g1, 0, none⟩) l.length cap) l x w2 := ⟨hb2, hs2, hk2, hb2.size⟩
  clear hs2 hk2 hb2 x0
  go_region_held3 (fun w' => w'.cell? ⟨W.heap.size, 0, none⟩ = some (.int .u64 x.f0) ∧ w'.cell? ⟨W.heap.size, 1, none⟩ = some (.string x.f1) ∧ w'.cell? ⟨g, 0, none⟩ = some (.slice (some ⟨g1, 0, none⟩) l.length cap) ∧ w'.cell? ⟨g1, pos l b * 3 + 1, none⟩ = some (.int .u64 y.f1.f0) ∧ w'.cell? ⟨g1, pos l b * 3 + 2, none⟩ = some (.string y.f1.f1) ∧ PutSt W B g (.slice (some ⟨g1, 0, none⟩) l.length cap) l x w')
    (first | exact put_cells hy (hst.b (Below.refl _ _).drew) | exact put_cells hy (PutSt.b (by assumption) (by assumption)) | exact put_cells hy ((hst.b (Below.refl _ _).drew).b (by assumption)))
    (first | (go_at_call 64; refine (newer_any _ _ _ _ _).mono ?_; rintro e w8 ⟨rfl, hb8⟩))
  rename_i hHeld
  have hbl := hHeld.2.2.2.2.2.below
  clear hHeld hst
  go_wp2_with fail
  go_ret
  exact ⟨rfl, HFIN.out _ hbl⟩
theorem heap_set {w : World} {g c : Nat} {cur : Array Value} {t : TypeId} (h : w.heap[g]? = some (.cells cur t (0, 0))) (u : Value) : (w.setCell ⟨g, c, none⟩ u).heap[g]? = some (.cells (cur.setIfInBounds c u) t (0, 0)) := by
  have hlt := (Array.getElem?_eq_some_iff.1 h).1
  have h' : w.heap[g] = .cells cur t (0, 0) := (Array.getElem?_eq_some_iff.1 h).2
  show (w.heap.modify g _)[g]? = _
  rw [Array.getElem?_eq_getElem (by simpa using hlt), Array.getElem_modify_self, h']
  rfl
theorem own_put {w : World} {B g cap n : Nat} {xs : List Value} (h : w.ownsRow B 30 3 (.slice (some ⟨g, 0, none⟩) n cap) n xs) (c : Nat) (hc : c < n * 3) (u : Value) : (w.setCell ⟨g, c, none⟩ u).ownsRow B 30 3 (.slice (some ⟨g, 0, none⟩) n cap) n (xs.set c u) := by
  obtain ⟨h1, h2⟩ := h
  refine ⟨by rw [List.length_set, h1], ?_⟩
  rcases h2 with ⟨h2, _⟩ | ⟨g2, cap2, cur, hv, hg, hh, hc1, hc2, hsz, htk⟩
  · cases h2
  · injection hv with hv1 hv2 hv3
    injection hv1 with hv1
    injection hv1 with hv1
    subst hv1
    subst hv3
    refine Or.inr ⟨g, cap, cur.setIfInBounds c u, rfl, hg, heap_set hh u, hc1, hc2, by rw [Array.size_setIfInBounds, hsz], ?_⟩
    rw [Array.toList_setIfInBounds, List.take_set, htk]
theorem flat_set {l : List H} {p : Nat} {y : H} (hy : l[p]? = some y) (x : It) : flat (l.set p ⟨y.f0, x⟩) = ((flat l).set (p * 3 + 1) (.int .u64 x.f0)).set (p * 3 + 2) (.string x.f1) := by
  induction l generalizing p with
  | nil => simp at hy
  | cons a l ih =>
    cases p with
    | zero =>
      simp at hy
      subst hy
      rfl
    | succ p =>
      have := ih (p := p) (by simpa using hy)
      rw [List.set_cons_succ]
      show hc a ++ flat (l.set p ⟨y.f0, x⟩) = ((hc a ++ flat l).set ((p + 1) * 3 + 1) _).set ((p + 1) * 3 + 2) _
      rw [this, List.set_append_right _ _ (by simp [hc]; omega), List.set_append_right _ _ (by simp [hc]; omega)]
      have e1 : (p + 1) * 3 + 1 - (hc a).length = p * 3 + 1 := by simp [hc]; omega
      have e2 : (p + 1) * 3 + 2 - (hc a).length = p * 3 + 2 := by simp [hc]; omega
      rw [e1, e2]
theorem Ok.set {l : List H} (h : Ok l) {p : Nat} {y : H} (hy : l[p]? = some y) (x : It) : Ok (l.set p ⟨y.f0, x⟩) := by
  have hm : ∀ l' : List H, (l'.set p ⟨y.f0, x⟩).map (·.f0) = (l'.map (·.f0)).set p y.f0 := fun l' => List.map_set
  have hsame : (l.set p ⟨y.f0, x⟩).map (·.f0) = l.map (·.f0) := by
    rw [hm]
    obtain ⟨hp, rfl⟩ := List.getElem?_eq_some_iff.1 hy
    refine List.ext_getElem (by simp) fun i h1 h2 => ?_
    rw [List.getElem_set]
    split
    · rename_i e
      subst e
      simp
    · rfl
  constructor
  · have t := (List.pairwise_map (f := fun h : H => h.f0) (R := fun a b : Int => a < b)).2 h.1
    rw [← hsame] at t
    exact (List.pairwise_map (f := fun h : H => h.f0) (R := fun a b : Int => a < b)).1 t
  · intro z hz
    have : z.f0 ∈ (l.set p ⟨y.f0, x⟩).map (·.f0) := List.mem_map_of_mem hz
    rw [hsame] at this
    obtain ⟨a, ha, e⟩ := List.mem_map.1 this
    rw [← e]
    exact h.2 a ha
theorem put_end {W w : World} {B g g1 cap : Nat} {l : List H} {x : It} (h : IsSet W B g (.slice (some ⟨g1, 0, none⟩) l.length cap) l) (hst : PutSt W B g (.slice (some ⟨g1, 0, none⟩) l.length cap) l x w) {p : Nat} {y : H} (hy : l[p]? = some y) :
    IsSet ((w.setCell ⟨g1, p * 3 + 1, none⟩ (.int .u64 x.f0)).setCell ⟨g1, p * 3 + 1 + 1, none⟩ (.string x.f1)).drew B g (.slice (some ⟨g1, 0, none⟩) l.length cap) (l.set p ⟨y.f0, x⟩) ∧
    Kept W ((w.setCell ⟨g1, p * 3 + 1, none⟩ (.int .u64 x.f0)).setCell ⟨g1, p * 3 + 1 + 1, none⟩ (.string x.f1)).drew g (.slice (some ⟨g1, 0, none⟩) l.length cap) := by
  have hlt : p < l.length := (List.getElem?_eq_some_iff.1 hy).1
  have hne : g1 ≠ g := fun e => hst.set.ne (by rw [e]; rfl)
  have hblk : ∀ k, k ≠ g1 → ((w.setCell ⟨g1, p * 3 + 1, none⟩ (.int .u64 x.f0)).setCell ⟨g1, p * 3 + 1 + 1, none⟩ (.string x.f1)).drew.heap[k]? = w.heap[k]? := fun k hk => (Below.heap_setCell _ _ _ k hk).trans (Below.heap_setCell w _ _ k hk)
  refine ⟨⟨(hblk g (fun e => hne e.symm)).trans hst.set.blk, ?_, hst.set.low, hst.set.ne, hst.set.ok.set hy x⟩, ⟨hst.below.os, hst.below.tape, hst.below.output, ?_, fun k hk hkg hkv => ?_⟩⟩
  · have h1 := own_put hst.set.own (p * 3 + 1) (by omega) (.int .u64 x.f0)
    have h2 := own_put h1 (p * 3 + 1 + 1) (by omega) (.string x.f1)
    rw [flat_set hy, List.length_set]
    exact h2
  · refine Nat.le_trans hst.size (Nat.le_of_eq ?_)
    simp [World.setCell, World.drew]
  · rw [hblk k (fun e => hkv (by rw [e]; rfl))]
    exact hst.below.block k hk
theorem put_new (W : World) (B g : Nat) (v : Value) (l : List H) (b : Int) (x : It) (h : IsSet W B g v l) (hd : x.f1.size ≤ 140737488355328) (h1 : ¬ b < 0) (h2 : ¬ 64 ≤ b) (h3 : mayB x.f1.data.toList = true) (hh : hit l b = true) (hnew : (getL l b).1.f0 < x.f0) :
    Calls Try.prog 31 #[.pointer (some ⟨g, 0, none⟩), .int .i64 b, .agg #[.int .u64 x.f0, .string x.f1]] W (PutPost W B g v l b x) := by
  have hp : putL l b x = (l.set (pos l b) ⟨b, x⟩, true) := by unfold putL; rw [if_neg (by rw [h3]; simp; omega), if_neg (by rw [hh]; simp), if_pos hnew]
  unfold PutPost
  rw [hp]
  clear hp
  obtain ⟨y, hy, hyb, hgy⟩ := hit_get hh
  have hgl : getL l b = (y.f1, true) := by unfold getL; rw [if_pos hh, hgy]
  rw [hgl] at hnew
  obtain ⟨w0, hw0⟩ : ∃ w0, w0 = W.alloc (.cells #[.int .u64 x.f0, .string x.f1] 28) := ⟨_, rfl⟩
  have hb0 : Below W.heap.size W w0 := by rw [hw0]; exact (Below.refl _ W).alloc (Nat.le_refl _) _
  have hk0 : Blk w0 W.heap.size 28 #[.int .u64 x.f0, .string x.f1] := by rw [hw0]; exact Blk.fresh W _ _
  have hs0 : IsSet w0 B g v l := h.b hb0
  have hsz0 : W.heap.size ≤ w0.heap.size := hb0.size
  have hm : Gv.item_May.f x.f0 x.f1 = some true := by unfold Gv.item_May.f; rw [if_pos hd, h3]
  have HM := Lib.hid hm
  have hf := fun (w1 : World) (h1 : IsSet w1 B g v l) => find_calls w1 B g v l b h1
  rw [hh] at hf
  have HF := Lib.hid hf
  obtain ⟨A, cap, rfl, hcap⟩ := Own.own_slice hs0.own
  have hlt : pos l b < l.length := (List.getElem?_eq_some_iff.1 hy).1
  obtain ⟨g1, rfl⟩ : ∃ g1, A = some ⟨g1, 0, none⟩ := by
    obtain ⟨g1, _, _, hv, _⟩ := own_block hs0.own (by omega)
    injection hv with hv1
    exact ⟨_, hv1⟩
  have hl := hs0.ok.len
  have k0 := hk0.cell 0
  have k1 := hk0.cell 1
  clear hm h3 hf
  go_enter Try.func31, Try.ntmps31
  go_wp2_with fail
  rw [← hw0]
  clear hw0
  refine (Gv.item_May.calls _ _ _ _ HM.out).mono ?_; rintro e w1 ⟨rfl, hb⟩
  have hb1 := hb0.trans (hb.mono hsz0)
  have hs1 := hs0.b hb
  have hk1 := hk0.b hb
  have hsz1 := Nat.le_trans hsz0 hb.size
  clear hb hb0 k0 k1 hs0 hk0 hsz0
  go_wp2_with fail
  refine (HF.out _ hs1).mono ?_; rintro e w2 ⟨rfl, hb⟩
  have hb2 := hb1.trans (hb.mono hsz1)
  have hs2 := hs1.b hb
  have hk2 := hk1.b hb
  clear hb hb1 hs1 hk1 hsz1
  have k0 : w2.cell? ⟨W.heap.size, 0, none⟩ = some (.int .u64 x.f0) := hk2.cell 0
  have k1 : w2.cell? ⟨W.heap.size, 1, none⟩ = some (.string x.f1) := hk2.cell 1
  have s0 : w2.cell? ⟨g, 0, none⟩ = some (.slice (some ⟨g1, 0, none⟩) l.length cap) := hs2.blk.cell 0
  have x0 := own_cell hs2.own hy 0 _ rfl
  have x1 := own_cell hs2.own hy 1 _ rfl
  have x2 := own_cell hs2.own hy 2 _ rfl
  rw [add_lit, Nat.zero_add] at x0 x1 x2
  go_wp2_with fail
  have hst : PutSt W B g (.slice (some ⟨g1, 0, none⟩) l.length cap) l x w2 := ⟨hb2, hs2, hk2, hb2.size⟩
  clear hs2 hk2 hb2 x0
  go_region_held3 (fun w' => w'.cell? ⟨W.heap.size, 0, none⟩ = some (.int .u64 x.f0) ∧ w'.cell? ⟨W.heap.size, 1, none⟩ = some (.string x.f1) ∧ w'.cell? ⟨g, 0, none⟩ = some (.slice (some ⟨g1, 0, none⟩) l.length cap) ∧ w'.cell? ⟨g1, pos l b * 3 + 1, none⟩ = some (.int .u64 y.f1.f0) ∧ w'.cell? ⟨g1, pos l b * 3 + 2, none⟩ = some (.string y.f1.f1) ∧ PutSt W B g (.slice (some ⟨g1, 0, none⟩) l.length cap) l x w')
    (first | exact put_cells hy (hst.b (Below.refl _ _).drew) | exact put_cells hy (PutSt.b (by assumption) (by assumption)) | exact put_cells hy ((hst.b (Below.refl _ _).drew).b (by assumption)))
    (first | (go_at_call 64; refine (newer_any _ _ _ _ _).mono ?_; rintro e w8 ⟨rfl, hb8⟩))
  rename_i hHeld
  obtain ⟨k0', k1', s0', x1', x2', hst8⟩ := hHeld
  clear hst k0 k1 s0 x1 x2
  obtain ⟨g1', cap', cur, hv', _, hgc, _⟩ := own_block hst8.set.own (by omega)
  injection hv' with hv1 hv2 hv3
  injection hv1 with hv1
  injection hv1 with hv1
  subst hv1
  have f1 : w8.frozen? ⟨g1, pos l b * 3 + 1, none⟩ = false := by unfold World.frozen?; rw [hgc]; simp
  have f2 : w8.frozen? ⟨g1, pos l b * 3 + 2, none⟩ = false := by unfold World.frozen?; rw [hgc]; simp
  clear hgc
  clear HF hgl hgy hnew hd h1 h2 hh
  go_wp2_with fail
  go_region
  obtain ⟨e1, e2⟩ := put_end h hst8 hy
  rw [hyb] at e1
  go_wp2_with fail
  go_ret
  exact ⟨rfl, _, e1, e2, Or.inl rfl⟩
structure PutFin (W : World) (B g : Nat) (v v' : Value) (l : List H) (b : Int) (x : It) (w' : World) : Prop where
  own : w'.ownsRow B 30 3 v' (l.length + 1) (flat (ins l (pos l b) ⟨b, x⟩))
  blk : Blk w' g 94 #[v]
  kept : Kept W w' g v
  ob : v'.ownBlock = v.ownBlock ∨ ∃ k, v'.ownBlock = some k ∧ W.heap.size ≤ k
theorem split_pos (l : List H) (b : Int) : l.take (pos l b) = l.takeWhile (fun h => decide (h.f0 < b)) ∧ l.drop (pos l b) = l.dropWhile (fun h => decide (h.f0 < b)) := by
  have h := List.takeWhile_append_dropWhile (p := fun h : H => decide (h.f0 < b)) (l := l)
  unfold pos
  constructor
  · conv => lhs; rw [← h]
    rw [List.take_left']
    rw [h]
  · conv => lhs; rw [← h]
    rw [List.drop_left']
    rw [h]
theorem Ok.ins {l : List H} (h : Ok l) {b : Int} (h1 : ¬ b < 0) (h2 : ¬ 64 ≤ b) (hh : hit l b = false) (x : It) : Ok (ins l (pos l b) ⟨b, x⟩) := by
  have hspl := List.takeWhile_append_dropWhile (p := fun h : H => decide (h.f0 < b)) (l := l)
  obtain ⟨e1, e2⟩ := split_pos l b
  have hT : ∀ a ∈ l.takeWhile (fun h => decide (h.f0 < b)), a.f0 < b := fun a ha => by simpa using List.all_eq_true.1 (List.all_takeWhile (p := fun h : H => decide (h.f0 < b)) (l := l)) a ha
  have hD : ∀ a ∈ l.dropWhile (fun h => decide (h.f0 < b)), b < a.f0 := by
    have hr : (l.dropWhile (fun h => decide (h.f0 < b))).Pairwise fun a b => a.f0 < b.f0 := by
      rw [← e2]
      exact h.1.drop
    have hd : ∀ d, (l.dropWhile (fun h => decide (h.f0 < b)))[0]? = some d → b < d.f0 := fun d hd => by
      have hd' := hd
      rw [← e2, List.getElem?_drop, Nat.add_zero] at hd'
      unfold hit at hh
      rw [hd'] at hh
      have hn : ¬ d.f0 < b := by
        have := List.head?_dropWhile_not (fun h : H => decide (h.f0 < b)) l
        rw [List.head?_eq_getElem?, hd] at this
        simpa using this
      have : d.f0 ≠ b := by simpa using hh
      omega
    intro a ha
    cases hc : l.dropWhile (fun h => decide (h.f0 < b)) with
    | nil => rw [hc] at ha; cases ha
    | cons d t =>
      rw [hc] at ha hr hd
      have hd0 := hd d rfl
      rcases List.mem_cons.1 ha with rfl | ha
      · exact hd0
      · have := (List.pairwise_cons.1 hr).1 a ha
        omega
  constructor
  · unfold Rise SetC.ins
    rw [e1, e2]
    have hl := h.1
    unfold Rise at hl
    rw [← hspl] at hl
    obtain ⟨p1, p2, p3⟩ := List.pairwise_append.1 hl
    refine List.pairwise_append.2 ⟨p1, List.pairwise_cons.2 ⟨fun a ha => hD a ha, p2⟩, fun a ha c hc => ?_⟩
    rcases List.mem_cons.1 hc with rfl | hc
    · exact hT a ha
    · exact p3 a ha c hc
  · intro a ha
    unfold SetC.ins at ha
    rcases List.mem_append.1 ha with ha | ha
    · exact h.2 a (List.mem_of_mem_take ha)
    · rcases List.mem_cons.1 ha with rfl | ha
      · exact ⟨by simp; omega, by simp; omega⟩
      · exact h.2 a (List.mem_of_mem_drop ha)
theorem put_fin {W w9 w2 : World} {B g : Nat} {v v' : Value} {l : List H} {b : Int} {x : It} (hs : IsSet w2 B g v l) (h1 : 0 ≤ b) (h2 : b < 64) (hh : hit l b = false) (hg : g < W.heap.size) (h : PutFin W B g v v' l b x w9) :
    IsSet (w9.setCell ⟨g, 0, none⟩ v') B g v' (ins l (pos l b) ⟨b, x⟩) ∧ Kept W (w9.setCell ⟨g, 0, none⟩ v') g v ∧ (v'.ownBlock = v.ownBlock ∨ ∃ k, v'.ownBlock = some k ∧ W.heap.size ≤ k) := by
  have hne : v'.ownBlock ≠ some g := by
    rcases h.ob with e | ⟨k, e, hk⟩
    · rw [e]; exact hs.ne
    · rw [e]
      intro e2
      injection e2 with e2
      omega
  refine ⟨⟨heap_set h.blk v', ?_, hs.low, hne, hs.ok.ins (by omega) (by omega) hh x⟩, ⟨h.kept.os, h.kept.tape, h.kept.output, ?_, fun k hk hkg hkv => (Below.heap_setCell w9 _ _ k hkg).trans (h.kept.block k hk hkg hkv)⟩, h.ob⟩
  · rw [ins_len _ _ _ (pos_le l b)]
    exact own_setCell h.own (fun e => hne e.symm) v'
  · refine Nat.le_trans h.kept.size (Nat.le_of_eq ?_)
    simp [World.setCell]
theorem put_call {W w : World} {B g : Nat} {v : Value} {l : List H} {x : It} {b : Int} (h : PutSt W B g v l x w) (hB : B ≤ W.heap.size) :
    Calls Try.prog 63 #[v, .int .i64 (pos l b), .slice (some ⟨w.heap.size, 0, none⟩) 1 1] (w.drew.alloc (.cells #[.int .i64 b, .int .u64 x.f0, .string x.f1] 30)) fun e w' =>
      ∃ A' cap', e = .returned (.slice A' (l.length + 1) cap') ∧ PutFin W B g v (.slice A' (l.length + 1) cap') l b x w' ∧ w'.cell? ⟨g, 0, none⟩ = some v ∧ w'.frozen? ⟨g, 0, none⟩ = false := by
  obtain ⟨w1, hw1⟩ : ∃ w1, w1 = w.drew.alloc (.cells #[.int .i64 b, .int .u64 x.f0, .string x.f1] 30) := ⟨_, rfl⟩
  have hb1 : Below w.heap.size w w1 := by rw [hw1]; exact ((Below.refl _ w).drew).alloc (Nat.le_refl _) _
  have hk1 : Blk w1 w.heap.size 30 (hc ⟨b, x⟩).toArray := by rw [hw1]; exact Blk.fresh w.drew _ _
  have h1 := h.b hb1
  rw [← hw1]
  refine (insert_any w1 B v l (pos l b) ⟨b, x⟩ w.heap.size (pos_le l b) (Nat.le_trans h.set.ok.len (by decide)) h1.set.own hk1 (fun e => ?_) (Nat.le_trans hB h1.size)).mono ?_
  · exact absurd (h.set.own.lt _ e.symm).2 (Nat.lt_irrefl _)
  · rintro e w2 ⟨v', rfl, hown, hgr, hob⟩
    obtain ⟨A', cap', rfl, _⟩ := Own.own_slice hown
    have hk2 : Blk w2 g 94 #[v] := h1.set.blk.grown hgr (fun e => h.set.ne e.symm)
    exact ⟨A', cap', rfl, ⟨hown, hk2, ⟨hgr.os.trans h1.below.os, hgr.tape.trans h1.below.tape, hgr.output.trans h1.below.output, Nat.le_trans h1.size hgr.size, fun k hk _ hkv => (hgr.block k (Nat.lt_of_lt_of_le hk h1.size) hkv).trans (h1.below.block k hk)⟩, hob.imp_right (fun e => ⟨_, e, h1.size⟩)⟩, hk2.cell 0, hk2.frozen 0⟩
set_option maxHeartbeats 4000000 in
theorem put_ins (W : World) (B g : Nat) (v : Value) (l : List H) (b : Int) (x : It) (h : IsSet W B g v l) (hd : x.f1.size ≤ 140737488355328) (h1 : ¬ b < 0) (h2 : ¬ 64 ≤ b) (h3 : mayB x.f1.data.toList = true) (hh : hit l b = false) (hB : B ≤ W.heap.size) :
    Calls Try.prog 31 #[.pointer (some ⟨g, 0, none⟩), .int .i64 b, .agg #[.int .u64 x.f0, .string x.f1]] W (PutPost W B g v l b x) := by
  have hp : putL l b x = (ins l (pos l b) ⟨b, x⟩, true) := by unfold putL; rw [if_neg (by rw [h3]; simp; omega), if_pos hh]
  unfold PutPost
  rw [hp]
  clear hp
  have hgW := h.blk.lt
  obtain ⟨w0, hw0⟩ : ∃ w0, w0 = W.alloc (.cells #[.int .u64 x.f0, .string x.f1] 28) := ⟨_, rfl⟩
  have hb0 : Below W.heap.size W w0 := by rw [hw0]; exact (Below.refl _ W).alloc (Nat.le_refl _) _
  have hk0 : Blk w0 W.heap.size 28 #[.int .u64 x.f0, .string x.f1] := by rw [hw0]; exact Blk.fresh W _ _
  have hs0 : IsSet w0 B g v l := h.b hb0
  have hsz0 : W.heap.size ≤ w0.heap.size := hb0.size
  have hm : Gv.item_May.f x.f0 x.f1 = some true := by unfold Gv.item_May.f; rw [if_pos hd, h3]
  have HM := Lib.hid hm
  have hf := fun (w1 : World) (h1 : IsSet w1 B g v l) => find_calls w1 B g v l b h1
  rw [hh] at hf
  have HF := Lib.hid hf
  obtain ⟨A, cap, rfl, hcap⟩ := Own.own_slice hs0.own
  have hl := hs0.ok.len
  have k0 := hk0.cell 0
  have k1 := hk0.cell 1
  clear hm h3 hf
  go_enter Try.func31, Try.ntmps31
  go_wp2_with fail
  rw [← hw0]
  clear hw0
  refine (Gv.item_May.calls _ _ _ _ HM.out).mono ?_; rintro e w1 ⟨rfl, hb⟩
  have hb1 := hb0.trans (hb.mono hsz0)
  have hs1 := hs0.b hb
  have hk1 := hk0.b hb
  have hsz1 := Nat.le_trans hsz0 hb.size
  clear hb hb0 k0 k1 hs0 hk0 hsz0
  go_wp2_with fail
  refine (HF.out _ hs1).mono ?_; rintro e w2 ⟨rfl, hb⟩
  have hb2 := hb1.trans (hb.mono hsz1)
  have hs2 := hs1.b hb
  have hk2 := hk1.b hb
  clear hb hb1 hs1 hk1 hsz1
  have k0 : w2.cell? ⟨W.heap.size, 0, none⟩ = some (.int .u64 x.f0) := hk2.cell 0
  have k1 : w2.cell? ⟨W.heap.size, 1, none⟩ = some (.string x.f1) := hk2.cell 1
  have s0 : w2.cell? ⟨g, 0, none⟩ = some (.slice A l.length cap) := hs2.blk.cell 0
  have hst : PutSt W B g (.slice A l.length cap) l x w2 := ⟨hb2, hs2, hk2, hb2.size⟩
  have hgl2 : g < w2.heap.size := hs2.blk.lt
  have hxl2 : W.heap.size < w2.heap.size := hk2.lt
  have hcl := put_call (b := b) hst hB
  have HCL := Lib.hid hcl
  clear hcl hs2 hk2 hb2
  go_wp2_with fail
  go_region_with (go_at_call 63; refine HCL.out.mono ?_; rintro e w9 ⟨A9, cap9, rfl, hfin, c0, c1⟩)
  all_goals
    obtain ⟨e1, e2, e3⟩ := put_fin hst.set h1 h2 hh hgW hfin
    go_wp2_with fail
    go_ret
    exact ⟨rfl, _, e1, e2, e3⟩
theorem put_calls (W : World) (B g : Nat) (v : Value) (l : List H) (b : Int) (x : It) (h : IsSet W B g v l) (hd : x.f1.size ≤ 140737488355328) (hB : B ≤ W.heap.size) :
    Calls Try.prog 31 #[.pointer (some ⟨g, 0, none⟩), .int .i64 b, .agg #[.int .u64 x.f0, .string x.f1]] W (PutPost W B g v l b x) := by
  by_cases hno : b < 0 ∨ 64 ≤ b ∨ mayB x.f1.data.toList = false
  · exact put_no W B g v l b x h hd hno
  · have h1 : ¬ b < 0 := fun e => hno (Or.inl e)
    have h2 : ¬ 64 ≤ b := fun e => hno (Or.inr (Or.inl e))
    have h3 : mayB x.f1.data.toList = true := by
      cases hm : mayB x.f1.data.toList with
      | true => rfl
      | false => exact absurd (Or.inr (Or.inr hm)) hno
    cases hh : hit l b with
    | false => exact put_ins W B g v l b x h hd h1 h2 h3 hh hB
    | true =>
      by_cases hn : (getL l b).1.f0 < x.f0
      · exact put_new W B g v l b x h hd h1 h2 h3 hh hn
      · exact put_old W B g v l b x h hd h1 h2 h3 hh hn
end Go.Proofs.Ytjohfkpgghnpeaa.SetC
end
section
namespace Go.Proofs.Ytjohfkpgghnpeaa.SetC
open Go Go.RowKit
open Go.Proofs.Ytjohfkpgghnpeaa.Gen
open Go.Proofs.Ytjohfkpgghnpeaa.ItemC
open Go.Proofs.Ytjohfkpgghnpeaa.PRef
set_option linter.unusedVariables false
theorem Kept.below {W w' : World} {B g : Nat} {v : Value} {l : List H} (h : Kept W w' g v) (hs : IsSet W B g v l) (hB : B ≤ W.heap.size) : Below B W w' :=
  ⟨h.os, h.tape, h.output, h.size, fun k hk => h.block k (Nat.lt_of_lt_of_le hk hB) (fun e => absurd hs.low (by omega)) (fun e => absurd (hs.own.lt k e.symm).1 (by omega))⟩
def aw1 : List H := [⟨3, ⟨2, ⟨#[]⟩⟩⟩]
end Go.Proofs.Ytjohfkpgghnpeaa.SetC
end
section
namespace Go.Proofs.Ytjohfkpgghnpeaa.ItmPr
open Go Go.RowKit
open Go.Proofs.Ytjohfkpgghnpeaa.Gen
open Go.Proofs.Ytjohfkpgghnpeaa.Num
open Go.Proofs.Ytjohfkpgghnpeaa.ItemC
open Go.Proofs.Ytjohfkpgghnpeaa.Gv
open Go.Proofs.Ytjohfkpgghnpeaa.NumPr
open Go.Proofs.Ytjohfkpgghnpeaa.PRef
open Go.Proofs.Ytjohfkpgghnpeaa.SetC (pos hit Rise Ok ins putL getL pos_le hit_get)
open Go.Proofs.YtjohfkpgghnpeaaW.PrintWords Go.Proofs.YtjohfkpgghnpeaaW.PrintLast Go.Proofs.YtjohfkpgghnpeaaW.PrintMore
set_option linter.unusedVariables false
theorem pos_lt {a : H} {l : List H} {b : Int} (h : a.f0 < b) : pos (a :: l) b = pos l b + 1 := by
  unfold SetC.pos
  rw [List.takeWhile_cons_of_pos (by simpa using h), List.length_cons]
theorem pos_ge {a : H} {l : List H} {b : Int} (h : ¬ a.f0 < b) : pos (a :: l) b = 0 := by
  unfold SetC.pos
  rw [List.takeWhile_cons_of_neg (by simpa using h)]
  rfl
theorem hit_lt {a : H} {l : List H} {b : Int} (h : a.f0 < b) : hit (a :: l) b = hit l b := by
  unfold SetC.hit
  rw [pos_lt h, List.getElem?_cons_succ]
theorem hit_ge {a : H} {l : List H} {b : Int} (h : ¬ a.f0 < b) : hit (a :: l) b = (a.f0 == b) := by
  unfold SetC.hit
  rw [pos_ge h]
  rfl
theorem find_pos (b : Int) : ∀ (l : List H), Rise l → l.find? (fun h => h.f0 == b) = if hit l b = true then l[pos l b]? else none
  | [], _ => by simp
  | a :: l, hr => by
    have hr' := List.pairwise_cons.1 hr
    by_cases h : a.f0 < b
    · rw [hit_lt h, pos_lt h, List.getElem?_cons_succ, ← find_pos b l hr'.2, List.find?_cons_of_neg (by simp; omega)]
    · rw [hit_ge h, pos_ge h]
      by_cases he : a.f0 = b
      · rw [List.find?_cons_of_pos (by simpa using he), if_pos (by simpa using he)]
        rfl
      · rw [List.find?_cons_of_neg (by simpa using he), if_neg (by simpa using he), List.find?_eq_none.2]
        intro c hc
        have := hr'.1 c hc
        simp
        omega
theorem get_loop (l : List H) (b : Int) (hl : l.length ≤ 1000) : ∀ (n i k : Nat), i + n = l.length → n < k → tarnref09_Get.l0 k l b (i : Int) = match (l.drop i).find? (fun h => h.f0 == b) with
    | some h => some (h.f1.f0, h.f1.f1, true)
    | none => some (0, (⟨#[]⟩ : ByteArray), false)
  | 0, i, k, hi, hk => by
    obtain ⟨j, rfl⟩ : ∃ j, k = j + 1 := ⟨k - 1, by omega⟩
    unfold tarnref09_Get.l0
    rw [if_neg (by omega), List.drop_of_length_le (by omega)]
    rfl
  | n + 1, i, k, hi, hk => by
    obtain ⟨j, rfl⟩ : ∃ j, k = j + 1 := ⟨k - 1, by omega⟩
    have hlt : i < l.length := by omega
    have ih := get_loop l b hl n (i + 1) j (by omega) (by omega)
    unfold tarnref09_Get.l0
    rw [if_pos (by omega), if_pos (by omega), rd_at hlt, List.drop_eq_getElem_cons hlt]
    by_cases h : l[i].f0 = b
    · rw [if_pos h, List.find?_cons_of_pos (by simpa using h)]
    · rw [if_neg h, List.find?_cons_of_neg (by simpa using h), show wrap64 ((i : Int) + 1) = ((i + 1 : Nat) : Int) by unfold wrap64; omega]
      exact ih
theorem rget_eq (l : List H) (b : Int) (hr : Rise l) (hl : l.length ≤ 1000) (k : Nat) (hk : l.length < k) : tarnref09_Get.f k l b = some ((getL l b).1.f0, (getL l b).1.f1, (getL l b).2) := by
  have h := get_loop l b hl l.length 0 k (by omega) hk
  rw [List.drop_zero, find_pos b l hr] at h
  unfold tarnref09_Get.f
  rw [show ((0 : Nat) : Int) = 0 from rfl] at h
  rw [h]
  unfold SetC.getL
  cases hh : hit l b with
  | false => rfl
  | true =>
    obtain ⟨y, hy, _, hg⟩ := hit_get hh
    rw [if_pos rfl, if_pos rfl, hy, hg]
def layR (b : Int) (x : It) : List H → Bool → List H
  | [], true => []
  | [], false => [⟨b, x⟩]
  | h :: t, true => if h.f0 = b then layR b x t true else h :: layR b x t true
  | h :: t, false => if h.f0 ≥ b then ⟨b, x⟩ :: (if h.f0 = b then layR b x t true else h :: layR b x t true) else (if h.f0 = b then layR b x t false else h :: layR b x t false)
theorem lay_true (b : Int) (x : It) : ∀ (l : List H), (∀ h ∈ l, h.f0 ≠ b) → layR b x l true = l
  | [], _ => rfl
  | a :: l, h => by
    unfold layR
    rw [if_neg (h a List.mem_cons_self), lay_true b x l (fun c hc => h c (List.mem_cons_of_mem _ hc))]
theorem lay_is (b : Int) (x : It) : ∀ (l : List H), Rise l → layR b x l false = if hit l b = true then l.set (pos l b) ⟨b, x⟩ else ins l (pos l b) ⟨b, x⟩
  | [], _ => rfl
  | a :: l, hr => by
    have hr' := List.pairwise_cons.1 hr
    by_cases h : a.f0 < b
    · unfold layR
      rw [if_neg (by omega), if_neg (by omega), lay_is b x l hr'.2, hit_lt h, pos_lt h]
      split
      · rw [List.set_cons_succ]
      · unfold SetC.ins
        rw [List.take_succ_cons, List.drop_succ_cons, List.cons_append]
    · unfold layR
      rw [if_pos (by omega), lay_true b x l (fun c hc => by have := hr'.1 c hc; omega), hit_ge h, pos_ge h]
      by_cases he : a.f0 = b
      · rw [if_pos he, if_pos (by simpa using he)]
        rfl
      · rw [if_neg he, if_neg (by simpa using he)]
        rfl
theorem lay_loop (l : List H) (b : Int) (x : It) (hl : l.length ≤ 1000) : ∀ (n i k : Nat) (out : List H) (q : Bool), i + n = l.length → 2 * n + 2 < k → out.length ≤ 2 * i → tarnref09_Lay.l0 k l b out q (i : Int) x.f0 x.f1 = some (out ++ layR b x (l.drop i) q, true)
  | 0, i, k, out, q, hi, hk, ho => by
    obtain ⟨j, rfl⟩ : ∃ j, k = j + 1 := ⟨k - 1, by omega⟩
    unfold tarnref09_Lay.l0
    rw [if_neg (by omega), List.drop_of_length_le (by omega)]
    cases q with
    | true => rw [if_pos rfl]; unfold layR; rw [List.append_nil]
    | false => rw [if_neg (by decide), if_pos (by omega)]; rfl
  | n + 1, i, k, out, q, hi, hk, ho => by
    obtain ⟨j, rfl⟩ : ∃ j, k = j + 2 := ⟨k - 2, by omega⟩
    have hlt : i < l.length := by omega
    have ih := fun (o : List H) (p : Bool) (h : o.length ≤ 2 * (i + 1)) => lay_loop l b x hl n (i + 1) j o p (by omega) (by omega) h
    have hw : wrap64 ((i : Int) + 1) = ((i + 1 : Nat) : Int) := by unfold wrap64; omega
    have hi0 : (0 : Int) ≤ (i : Int) := by omega
    have hi1 : (i : Int) < (l.length : Int) := by omega
    have ho1 : out.length < 4398046511104 := by omega
    have ho2 : (out ++ [(⟨b, x⟩ : H)]).length < 4398046511104 := by simp; omega
    have hj3t : tarnref09_Lay.j3 (j + 1) l b out q (i : Int) true x.f0 x.f1 = some (out ++ (⟨b, x⟩ :: (if l[i].f0 = b then layR b x (l.drop (i + 1)) true else l[i] :: layR b x (l.drop (i + 1)) true)), true) := by
      unfold tarnref09_Lay.j3
      rw [rd_at hlt, hw, if_pos rfl, if_pos ho1, Option.bind_some, if_pos hi0, if_pos hi1]
      by_cases he : l[i].f0 = b
      · rw [if_pos he, if_pos he]
        exact (ih (out ++ [(⟨b, x⟩ : H)]) true (by simp; omega)).trans (by rw [List.append_assoc]; rfl)
      · rw [if_neg he, if_neg he, if_pos ho2]
        exact (ih (out ++ [(⟨b, x⟩ : H)] ++ [l[i]]) true (by simp; omega)).trans (by rw [List.append_assoc, List.append_assoc]; rfl)
    have hj3f : tarnref09_Lay.j3 (j + 1) l b out q (i : Int) false x.f0 x.f1 = some (out ++ (if l[i].f0 = b then layR b x (l.drop (i + 1)) q else l[i] :: layR b x (l.drop (i + 1)) q), true) := by
      unfold tarnref09_Lay.j3
      rw [rd_at hlt, hw, if_neg (by decide), if_pos hi0, if_pos hi1]
      by_cases he : l[i].f0 = b
      · rw [if_pos he, if_pos he, ih out q (by omega)]
      · rw [if_neg he, if_neg he, if_pos ho1]
        exact (ih (out ++ [l[i]]) q (by simp; omega)).trans (by rw [List.append_assoc]; rfl)
    unfold tarnref09_Lay.l0
    rw [if_pos (by omega), List.drop_eq_getElem_cons hlt]
    cases q with
    | true =>
      rw [if_pos rfl, hj3f]
      conv => rhs; unfold layR
    | false =>
      rw [if_neg (by decide), if_pos hi0, rd_at hlt]
      conv => rhs; unfold layR
      by_cases hge : l[i].f0 ≥ b
      · rw [show decide (l[i].f0 ≥ b) = true by simpa using hge, hj3t, if_pos hge]
      · rw [show decide (l[i].f0 ≥ b) = false by simpa using hge, hj3f, if_neg hge]
theorem rlay_eq (l : List H) (b : Int) (x : It) (hok : Ok l) (hd : x.f1.size ≤ 140737488355328) (k : Nat) (hk : 200 < k) : tarnref09_Lay.f k l b x.f0 x.f1 = some (putL l b x) := by
  have hl := hok.len
  obtain ⟨j, rfl⟩ : ∃ j, k = j + 2 := ⟨k - 2, by omega⟩
  have hj0 : tarnref09_Lay.j0 (j + 2) l b true x.f0 x.f1 = some (l, false) := by
    unfold tarnref09_Lay.j0
    dsimp only
    rw [if_pos rfl]
  unfold tarnref09_Lay.f SetC.putL
  by_cases h1 : b < 0
  · rw [if_pos h1, hj0, if_pos (Or.inl h1)]
  by_cases h2 : b ≥ 64
  · rw [if_neg h1, if_pos h2, hj0, if_pos (Or.inr (Or.inl h2))]
  rw [if_neg h1, if_neg h2]
  have hm : tarnref08_May.f x.f0 x.f1 = some (mayB x.f1.data.toList) := by unfold tarnref08_May.f; rw [if_pos hd]
  rw [hm, Option.bind_some]
  cases hmb : mayB x.f1.data.toList with
  | false =>
    rw [if_pos (Or.inr (Or.inr rfl))]
    exact hj0
  | true =>
    rw [if_neg (by simp; omega)]
    have hlay := lay_loop l b x (by omega) l.length 0 j [] false (by omega) (by omega) (by simp)
    rw [List.drop_zero, List.nil_append, lay_is b x l hok.1, show ((0 : Nat) : Int) = 0 from rfl] at hlay
    have hj1t : tarnref09_Lay.j1 (j + 1) l b true x.f0 x.f1 = some (l, false) := by
      unfold tarnref09_Lay.j1
      dsimp only
      rw [if_pos rfl]
    have hj1f : tarnref09_Lay.j1 (j + 1) l b false x.f0 x.f1 = some (if hit l b = true then l.set (pos l b) ⟨b, x⟩ else ins l (pos l b) ⟨b, x⟩, true) := by
      unfold tarnref09_Lay.j1
      dsimp only
      rw [if_neg (by decide)]
      exact hlay
    unfold tarnref09_Lay.j0
    dsimp only
    rw [if_neg (by decide), rget_eq l b hok.1 (by omega) _ (by omega), Option.bind_some]
    cases hh : hit l b with
    | false =>
      have e2 : (getL l b).2 = false := by unfold SetC.getL; rw [hh]; rfl
      rw [if_neg (by rw [e2]; decide), hj1f, hh]
      rfl
    | true =>
      have e2 : (getL l b).2 = true := by unfold SetC.getL; rw [hh]; rfl
      rw [if_pos e2, if_neg (by decide)]
      by_cases hn : (getL l b).1.f0 < x.f0
      · rw [if_pos hn, show decide ((getL l b).1.f0 ≥ x.f0) = false by simp; omega, hj1f, hh]
        rfl
      · rw [if_neg hn, show decide ((getL l b).1.f0 ≥ x.f0) = true by simp; omega, hj1t]
theorem putL_ok {l : List H} (h : Ok l) (b : Int) (x : It) : Ok (putL l b x).1 := by
  unfold SetC.putL
  split
  · exact h
  · rename_i hno
    split
    · rename_i hh
      exact SetC.Ok.ins h (by omega) (by omega) hh x
    · rename_i hh
      split
      · obtain ⟨y, hy, hyb, _⟩ := hit_get (by simpa using hh)
        have := SetC.Ok.set h hy x
        rwa [hyb] at this
      · exact h
theorem putL_mem {l : List H} {b : Int} {x : It} {P : H → Prop} (h : ∀ y ∈ l, P y) (hx : mayB x.f1.data.toList = true → P ⟨b, x⟩) : ∀ y ∈ (putL l b x).1, P y := by
  unfold SetC.putL
  split
  · exact h
  · rename_i hno
    have hm : mayB x.f1.data.toList = true := by
      cases hc : mayB x.f1.data.toList with
      | true => rfl
      | false => exact absurd (Or.inr (Or.inr hc)) hno
    split
    · intro y hy
      unfold SetC.ins at hy
      rcases List.mem_append.1 hy with hy | hy
      · exact h y (List.mem_of_mem_take hy)
      · rcases List.mem_cons.1 hy with rfl | hy
        · exact hx hm
        · exact h y (List.mem_of_mem_drop hy)
    · split
      · intro y hy
        rcases List.mem_or_eq_of_mem_set hy with hy | rfl
        · exact h y hy
        · exact hx hm
      · exact h
def ofL (m : List H) : List H → List H
  | [] => m
  | h :: t => ofL (putL m h.f0 h.f1).1 t
theorem of_loop (l : List H) (hl : l.length ≤ 1000) (hs : ∀ x ∈ l, x.f1.f1.size ≤ 140737488355328) : ∀ (n i k : Nat) (m : List H), i + n = l.length → n + 300 < k → Ok m → tarnref09_Of.l0 k l m (i : Int) = some (ofL m (l.drop i))
  | 0, i, k, m, hi, hk, hm => by
    obtain ⟨j, rfl⟩ : ∃ j, k = j + 1 := ⟨k - 1, by omega⟩
    unfold tarnref09_Of.l0
    rw [if_neg (by omega), List.drop_of_length_le (by omega)]
    rfl
  | n + 1, i, k, m, hi, hk, hm => by
    obtain ⟨j, rfl⟩ : ∃ j, k = j + 1 := ⟨k - 1, by omega⟩
    have hlt : i < l.length := by omega
    unfold tarnref09_Of.l0
    rw [if_pos (by omega), if_pos (by omega), rd_at hlt, rlay_eq m _ _ hm (hs _ (List.getElem_mem hlt)) _ (by omega), Option.bind_some, show wrap64 ((i : Int) + 1) = ((i + 1 : Nat) : Int) by unfold wrap64; omega, of_loop l hl hs n (i + 1) j _ (by omega) (by omega) (putL_ok hm _ _), List.drop_eq_getElem_cons hlt]
    rfl
theorem of_eq (l : List H) (hl : l.length ≤ 1000) (hs : ∀ x ∈ l, x.f1.f1.size ≤ 140737488355328) (k : Nat) (hk : l.length + 300 < k) : tarnref09_Of.f k l = some (ofL [] l) := by
  have h := of_loop l hl hs l.length 0 k [] (by omega) hk ⟨List.Pairwise.nil, by simp⟩
  unfold tarnref09_Of.f
  rw [List.drop_zero] at h
  exact h
theorem ofL_ok : ∀ (l m : List H), Ok m → Ok (ofL m l)
  | [], m, h => h
  | a :: l, m, h => ofL_ok l _ (putL_ok h _ _)
theorem ofL_mem {P : H → Prop} : ∀ (l m : List H), (∀ y ∈ m, P y) → (∀ y ∈ l, mayB y.f1.f1.data.toList = true → P y) → ∀ y ∈ ofL m l, P y
  | [], m, h, _ => h
  | a :: l, m, h, h2 => ofL_mem l _ (putL_mem h (fun hm => h2 a List.mem_cons_self hm)) (fun y hy => h2 y (List.mem_cons_of_mem _ hy))
end Go.Proofs.Ytjohfkpgghnpeaa.ItmPr
end
