-- packed by pack.py, a program of this claim's repo
import Derived.Test.YtjohfkpgghnpeaaIqC
import Derived.Test.YtjohfkpgghnpeaaIqD
import Derived.Test.YtjohfkpgghnpeaaIqE
import Derived.Test.YtjohfkpgghnpeaaIqB
import Derived.Test.YtjohfkpgghnpeaaIqF
import Derived.Test.YtjohfkpgghnpeaaIqG
import Derived.Test.YtjohfkpgghnpeaaIqH
import Derived.Test.YtjohfkpgghnpeaaIqA
import Derived.Test.YtjohfkpgghnpeaaIqI
import Derived.Test.YtjohfkpgghnpeaaIqJ
import Derived.Test.YtjohfkpgghnpeaaIqK
import Derived.Test.YtjohfkpgghnpeaaIqL
import Derived.Test.YtjohfkpgghnpeaaIqM
import Derived.Test.YtjohfkpgghnpeaaIqN
import Derived.Test.YtjohfkpgghnpeaaIqO
import Derived.WalkSpells
import Derived.Outline
section
namespace Go.Proofs.Ytjohfkpgghnpeaa.SetC
open Go Go.RowKit
open Go.Proofs.Ytjohfkpgghnpeaa.Gen
open Go.Proofs.Ytjohfkpgghnpeaa.Own
open Go.Proofs.Ytjohfkpgghnpeaa.RowK
open Go.Proofs.Ytjohfkpgghnpeaa.PRef
set_option linter.unusedVariables false
abbrev H := S30
def hc (x : H) : List Value := [.int .i64 x.f0, .int .u64 x.f1.f0, .string x.f1.f1]
def flat (l : List H) : List Value := l.flatMap hc
theorem flat_len (l : List H) : (flat l).length = l.length * 3 := by
  induction l with
  | nil => rfl
  | cons a l ih => unfold flat at ih ⊢; rw [List.flatMap_cons, List.length_append, ih]; simp [hc]; omega
theorem flat_one (l : List H) : ∀ v ∈ flat l, v.oneCell' = true := by
  intro v hv
  obtain ⟨x, _, hx⟩ := List.mem_flatMap.1 hv
  simp [hc] at hx
  rcases hx with rfl | rfl | rfl <;> rfl
theorem flat_append (a b : List H) : flat (a ++ b) = flat a ++ flat b := by unfold flat; rw [List.flatMap_append]
theorem flat_take (l : List H) (i : Nat) : (flat l).take (i * 3) = flat (l.take i) := by
  by_cases h : i ≤ l.length
  · conv => lhs; rw [← List.take_append_drop i l, flat_append]
    have : (flat (l.take i)).length = i * 3 := by rw [flat_len, List.length_take]; omega
    rw [← this, List.take_left]
  · rw [List.take_of_length_le (by rw [flat_len]; omega), List.take_of_length_le (by omega)]
theorem flat_drop (l : List H) (i : Nat) : (flat l).drop (i * 3) = flat (l.drop i) := by
  by_cases h : i ≤ l.length
  · conv => lhs; rw [← List.take_append_drop i l, flat_append]
    have : (flat (l.take i)).length = i * 3 := by rw [flat_len, List.length_take]; omega
    rw [← this, List.drop_left]
  · rw [List.drop_of_length_le (by rw [flat_len]; omega), List.drop_of_length_le (by omega)]
    rfl
def ins (l : List H) (i : Nat) (x : H) : List H := l.take i ++ x :: l.drop i
theorem ins_len (l : List H) (i : Nat) (x : H) (h : i ≤ l.length) : (ins l i x).length = l.length + 1 := by simp [ins]; omega
theorem ins_end (l : List H) (x : H) : ins l l.length x = l ++ [x] := by simp [ins]
theorem size3 : ∀ w, (sizeOf 30).run Try.prog w = .ok 3 w := fun w => by kernel_rfl
theorem info3 : (Try.prog.info? 30).map (fun i => (i.zero, i.size, i.bytes)) = some (some (.agg #[.int .i64 0, .int .u64 0, .string ⟨#[]⟩]), 3, 32) := by kernel_rfl
theorem take_of_cur {cur : Array Value} {n : Nat} {xs : List Value} (h : cur.toList.take n = xs) (j : Nat) (hj : j < n) : cur[j]? = xs[j]? := by
  rw [← h, List.getElem?_take, if_pos hj, Array.getElem?_toList]
def InsPost (W : World) (B : Nat) (v : Value) (l : List H) (i : Nat) (x : H) (e : Ending) (w' : World) : Prop :=
  ∃ v', e = .returned v' ∧ w'.ownsRow B 30 3 v' (l.length + 1) (flat (ins l i x)) ∧ W.grownBy w' v.ownBlock ∧ (v'.ownBlock = v.ownBlock ∨ v'.ownBlock = some W.heap.size)
set_option maxHeartbeats 2000000 in
theorem insert_end (W : World) (B : Nat) (v : Value) (l : List H) (x : H) (vb : Nat) (hl : l.length ≤ 1000) (hown : W.ownsRow B 30 3 v l.length (flat l)) (hx : Blk W vb 30 (hc x).toArray) (hB : B ≤ W.heap.size) :
    Calls Try.prog 63 #[v, .int .i64 l.length, .slice (some ⟨vb, 0, none⟩) 1 1] W (InsPost W B v l l.length x) := by
  obtain ⟨A, cap, rfl, hcap⟩ := own_slice hown
  have e1 : ((1 : Int) == 0) = false := by decide
  have hi := ins_end l x
  have HI := Lib.hid hi
  clear hi
  have hfl : flat [x] = hc x := by simp [flat]
  have HF := Lib.hid hfl
  clear hfl
  have hcm : (cap : Int) ≤ 9223372036854775807 := by
    rcases hown.2 with ⟨h1, _⟩ | ⟨g, c, cur, h1, _, _, _, h2, _⟩
    · injection h1 with _ _ h3
      omega
    · injection h1 with _ _ h3
      unfold maxLen at h2
      omega
  have hl2 : (l.length : Int) ≤ (cap : Int) := by omega
  by_cases hcl : cap = l.length
  · subst hcl
    go_enter Try.func63, Try.ntmps63
    go_wp2_with (at_builtin
                 refine wpList_appK _ rfl _ _ _ rfl B 30 (.agg #[.int .i64 0, .int .u64 0, .string ⟨#[]⟩]) 3 32 Try.underlying22 info3 rfl (by decide) _ l.length _ rfl hown ⟨vb, 0, none⟩ 1 1 (hc x) rfl rfl (fun j u hj => by rw [add_lit, Nat.zero_add, hx.cell, ← hj]; simp) (by intro u hu; simp [hc] at hu; rcases hu with rfl | rfl | rfl <;> rfl) (by omega) (by omega) hB ?_
                 intro A' cap' w4 hown4 hc4 hg4 hb4 hob4)
    go_ret
    exact ⟨_, rfl, by rw [HI.out, flat_append, HF.out]; exact hown4, hg4, hob4⟩
  · go_enter Try.func63, Try.ntmps63
    go_wp2_with (at_builtin
                 refine wpList_appK _ rfl _ _ _ rfl B 30 (.agg #[.int .i64 0, .int .u64 0, .string ⟨#[]⟩]) 3 32 Try.underlying22 info3 rfl (by decide) _ l.length _ rfl hown ⟨vb, 0, none⟩ 1 1 (hc x) rfl rfl (fun j u hj => by rw [add_lit, Nat.zero_add, hx.cell, ← hj]; simp) (by intro u hu; simp [hc] at hu; rcases hu with rfl | rfl | rfl <;> rfl) (by omega) (by omega) hB ?_
                 intro A' cap' w4 hown4 hc4 hg4 hb4 hob4)
    go_ret
    exact ⟨_, rfl, by rw [HI.out, flat_append, HF.out]; exact hown4, hg4, hob4⟩
theorem reads_row {w : World} {g : Nat} {cur : Array Value} {t : TypeId} (hg : w.heap[g]? = some (.cells cur t (0, 0))) {n : Nat} {xs : List Value} (h : cur.toList.take n = xs) (i : Nat) (hi : i ≤ n) : ∀ j v, (xs.drop i)[j]? = some v → w.cell? ((⟨g, i, none⟩ : Addr).add j) = some v := by
  intro j v hj
  rw [add_lit, cell_blk hg, ← hj, List.getElem?_drop]
  have hlt : i + j < xs.length := by
    rcases Nat.lt_or_ge (i + j) xs.length with h1 | h1
    · exact h1
    · rw [List.getElem?_drop, List.getElem?_eq_none h1] at hj
      cases hj
  have hxl : xs.length ≤ n := by rw [← h, List.length_take]; omega
  exact take_of_cur h _ (by omega)
theorem ins_split (l : List H) (i : Nat) (x : H) : flat (ins l i x) = flat (l.take i) ++ (hc x ++ flat (l.drop i)) := by
  unfold ins
  rw [flat_append]
  rfl
theorem ins_lay {cur : Array Value} {l : List H} {i cap : Nat} (x : H) (hi : i < l.length) (hroom : l.length + 1 ≤ cap) (hsz : cur.size = cap * 3) (hcur : cur.toList.take (l.length * 3) = flat l) :
    (lay (lay cur ((i + 1) * 3) (flat (l.drop i))) (i * 3) (hc x)).toList.take ((l.length + 1) * 3) = flat (ins l i x) := by
  have hF : (flat (l.drop i)).length = (l.length - i) * 3 := by rw [flat_len, List.length_drop]
  have hA : (flat (l.take i)).length = i * 3 := by rw [flat_len, List.length_take]; omega
  have hX : (hc x).length = 3 := rfl
  have hC : cur.toList.length = cap * 3 := by rw [Array.length_toList, hsz]
  have t1 : cur.toList.take (i * 3) = flat (l.take i) := by
    rw [← flat_take, ← hcur, List.take_take]
    congr 1
    omega
  rw [lay_toList, lay_toList, hX]
  have e1 : (cur.toList.take ((i + 1) * 3) ++ (flat (l.drop i) ++ cur.toList.drop ((i + 1) * 3 + (flat (l.drop i)).length))).take (i * 3) = flat (l.take i) := by
    rw [List.take_append_of_le_length (by rw [List.length_take]; omega), List.take_take, ← t1]
    congr 1
    omega
  have e2 : (cur.toList.take ((i + 1) * 3) ++ (flat (l.drop i) ++ cur.toList.drop ((i + 1) * 3 + (flat (l.drop i)).length))).drop (i * 3 + 3) = flat (l.drop i) ++ cur.toList.drop ((i + 1) * 3 + (flat (l.drop i)).length) := by
    have h3 : (cur.toList.take ((i + 1) * 3)).length = i * 3 + 3 := by rw [List.length_take]; omega
    rw [← h3, List.drop_left]
  rw [e1, e2, ins_split]
  have h4 : (flat (l.take i) ++ (hc x ++ flat (l.drop i))).length = (l.length + 1) * 3 := by rw [List.length_append, List.length_append, hA, hX, hF]; omega
  rw [← h4, show flat (l.take i) ++ (hc x ++ (flat (l.drop i) ++ cur.toList.drop ((i + 1) * 3 + (flat (l.drop i)).length))) = (flat (l.take i) ++ (hc x ++ flat (l.drop i))) ++ cur.toList.drop ((i + 1) * 3 + (flat (l.drop i)).length) by simp, List.take_left]
theorem hc_one (x : H) : ∀ v ∈ hc x, v.oneCell' = true := by
  intro u hu
  simp [hc] at hu
  rcases hu with rfl | rfl | rfl <;> rfl
theorem blk_reads {W : World} {vb : Nat} {x : H} (hx : Blk W vb 30 (hc x).toArray) : ∀ j u, (hc x)[j]? = some u → W.cell? ((⟨vb, 0, none⟩ : Addr).add j) = some u := fun j u hj => by
  rw [add_lit, Nat.zero_add, hx.cell, ← hj]
  simp
theorem overlaps_no (W : World) (g vb off : Nat) (cur : Array Value) (x : H) (hg : W.heap[g]? = some (.cells cur 30 (0, 0))) (hsz : cur.size ≠ 0) (hx : Blk W vb 30 (hc x).toArray) (hne : vb ≠ g) (lb cb : Nat) : (callFunc 90 #[.slice (some ⟨vb, 0, none⟩) 1 1, .slice (some ⟨g, off, none⟩) lb cb]).run Try.prog W = .ok (.value (.bool false)) W := by
  have hsb : W.shape? g = some (30, cur.size) := by unfold World.shape?; rw [hg]
  have hsa : W.shape? vb = some (30, 3) := by unfold World.shape?; rw [show W.heap[vb]? = some (.cells (hc x).toArray 30 (0, 0)) from hx]; rfl
  have hfa := hx.frozen 0
  have hfe := hx.frozen 3
  rw [run_callFunc_extern Try.func90 (by kernel_rfl) (by kernel_rfl) (by kernel_rfl) (e := Extern.SlicesOverlaps.overlaps #[22, 22] #[4]) (by kernel_rfl),
    Lib.run_overlaps_apart W 22 4 30 Try.underlying22 3 size3 ⟨vb, 0, none⟩ ⟨g, off, none⟩ 1 1 lb cb hne 30 30 3 cur.size hsa hsb hsz hfa hfe]
  rfl
theorem copy_x (W : World) (g off dl : Nat) (cur : Array Value) (vb : Nat) (x : H) (hg : W.heap[g]? = some (.cells cur 30 (0, 0))) (hdl : 1 ≤ dl) (hfit : off + 3 ≤ cur.size) (hx : Blk W vb 30 (hc x).toArray) :
    ∃ W', (∀ ty dc, (Builtin.copy_ #[22, 22] ty #[.slice (some ⟨g, off, none⟩) dl dc, .slice (some ⟨vb, 0, none⟩) 1 1]).run Try.prog W = .ok (.int .i64 1) W') ∧ W'.heap[g]? = some (.cells (lay cur off (hc x)) 30 (0, 0)) ∧ W.grownBy W' (some g) :=
  ⟨W.setRow g (lay cur off (hc x)), fun ty dc => run_copyK W 22 22 ty 30 Try.underlying22 3 size3 g off dl dc ⟨vb, 0, none⟩ 1 1 cur _ hg 1 (by simp only [Nat.min_def]; split <;> omega) (hc x) rfl (blk_reads hx) (by simp only [hc, List.length_cons, List.length_nil]; omega) (hc_one x),
    setRow_heap W g _ _ _ _ hg, ⟨rfl, rfl, rfl, by simp [World.setRow], fun i _ hi => setRow_other W g i _ (fun e => hi (by rw [e]))⟩⟩
set_option maxHeartbeats 4000000 in
set_option maxRecDepth 20000 in
theorem insert_shift (W : World) (B g cap : Nat) (cur : Array Value) (l : List H) (i : Nat) (x : H) (vb : Nat) (hi : i < l.length) (hl : l.length ≤ 1000) (hroom : l.length + 1 ≤ cap) (hcm : cap ≤ maxLen) (hg : W.heap[g]? = some (.cells cur 30 (0, 0))) (hBg : B ≤ g) (hsz : cur.size = cap * 3) (hcur : cur.toList.take (l.length * 3) = flat l)
    (hx : Blk W vb 30 (hc x).toArray) (hne : vb ≠ g) :
    Calls Try.prog 63 #[.slice (some ⟨g, 0, none⟩) l.length cap, .int .i64 i, .slice (some ⟨vb, 0, none⟩) 1 1] W (InsPost W B (.slice (some ⟨g, 0, none⟩) l.length cap) l i x) := by
  unfold maxLen at hcm
  have e1 : ((1 : Int) == 0) = false := by decide
  have e2 : ((i : Int) == (l.length : Int)) = false := by simp; omega
  have hcl : ¬ cap = i := by omega
  have hile : i ≤ l.length := by omega
  have hile1 : i ≤ l.length + 1 := by omega
  have hcl2 : ¬ cap = i + 1 := by omega
  have hw1 : IntKind.i64.wrap ((i : Int) + 1) = (i : Int) + 1 := by rw [IntKind.wrap_i64]; omega
  have ht1 : ((i : Int) + 1).toNat = i + 1 := by omega
  have hb3 : (i : Int) ≤ (l.length : Int) + 1 := by omega
  have hb4 : (0 : Int) ≤ (i : Int) + 1 := by omega
  have hF : (flat (l.drop i)).length = (l.length - i) * 3 := by rw [flat_len, List.length_drop]
  have hFo := flat_one (l.drop i)
  have hrd := reads_row hg hcur (i * 3) (by omega)
  rw [flat_drop] at hrd
  have hfin := ins_lay x hi hroom hsz hcur
  have HF := Lib.hid hF
  have HFIN := Lib.hid hfin
  clear hfin
  have hgd : W.drew.heap[g]? = some (.cells cur 30 (0, 0)) := hg
  have hrdd : ∀ j v, (flat (l.drop i))[j]? = some v → W.drew.cell? ((⟨g, i * 3, none⟩ : Addr).add j) = some v := fun j v h => hrd j v h
  have HGD := Lib.hid hgd
  have HRD := Lib.hid hrdd
  clear hgd hrdd hrd
  have hfit : (i + 1) * 3 + (flat (l.drop i)).length ≤ cur.size := by rw [hF]; omega
  have hnn : l.length - i = Nat.min (l.length + 1 - i) (l.length - i) := by simp only [Nat.min_def]; split <;> omega
  have HNN := Lib.hid hnn
  clear hnn
  have hov : ∀ lb cb, (callFunc 90 #[.slice (some ⟨vb, 0, none⟩) 1 1, .slice (some ⟨g, (i + 1) * 3, none⟩) lb cb]).run Try.prog W = .ok (.value (.bool false)) W := fun lb cb => overlaps_no W g vb ((i + 1) * 3) cur x hg (by omega) hx hne lb cb
  go_enter Try.func63, Try.ntmps63
  go_wp2_with fail
  go_region_law (refine step_copyK rfl (.tmp 73) (.tmp 76) 22 22 rfl 30 Try.underlying22 3 size3 g ((i + 1) * 3) (l.length - i) (cap - (i + 1)) ⟨g, i * 3, none⟩ (l.length + 1 - i) (cap - i) (by simp [Act.eval, Act.put]) (by simp [Act.eval, Act.put]) cur 30 HGD.out (l.length - i) HNN.out (flat (l.drop i)) HF.out HRD.out hfit hFo ?_
                 intro w4 hg4 hgr4)
  obtain ⟨w5, hcp2, hg5, hgr5⟩ := copy_x w4 g (i * 3) (l.length + 1 - i) _ vb x hg4.out (by omega) (by rw [lay_size (by rw [HF.out]; omega)]; omega) ((show Blk W.drew vb 30 (hc x).toArray from hx).grown hgr4 (by simpa using hne))
  go_wp2_with fail
  go_ret
  have hs1 : (lay cur ((i + 1) * 3) (flat (l.drop i))).size = cur.size := lay_size (by rw [HF.out]; omega)
  have hs2 : (lay (lay cur ((i + 1) * 3) (flat (l.drop i))) (i * 3) (hc x)).size = cur.size := by
    rw [lay_size, hs1]
    rw [hs1]
    simp only [hc, List.length_cons, List.length_nil]
    omega
  have h45 : W.grownBy w5 (some g) := ⟨hgr5.1.trans hgr4.1, hgr5.2.trans hgr4.2, hgr5.3.trans hgr4.3, Nat.le_trans hgr4.4 hgr5.4, fun k hk hn => (hgr5.5 k (Nat.lt_of_lt_of_le hk hgr4.4) hn).trans (hgr4.5 k hk hn)⟩
  refine ⟨_, rfl, ⟨?_, Or.inr ⟨g, cap, _, rfl, hBg, hg5, hroom, by unfold maxLen; omega, by rw [hs2, hsz], HFIN.out⟩⟩, h45, Or.inl rfl⟩
  rw [flat_len, ins_len _ _ _ hile]
theorem ins_lay2 {cur : Array Value} {l : List H} {i cap : Nat} (x : H) (hi : i < l.length) (hroom : l.length + 1 ≤ cap) (hsz : cur.size = cap * 3) (hcur : cur.toList.take (i * 3) = flat (l.take i)) :
    (lay (lay cur (i * 3) (hc x)) ((i + 1) * 3) (flat (l.drop i))).toList.take ((l.length + 1) * 3) = flat (ins l i x) := by
  have hF : (flat (l.drop i)).length = (l.length - i) * 3 := by rw [flat_len, List.length_drop]
  have hA : (flat (l.take i)).length = i * 3 := by rw [flat_len, List.length_take]; omega
  have hX : (hc x).length = 3 := rfl
  have hC : cur.toList.length = cap * 3 := by rw [Array.length_toList, hsz]
  rw [lay_toList, lay_toList, hX, hcur, ins_split]
  have e1 : (flat (l.take i) ++ (hc x ++ cur.toList.drop (i * 3 + 3))).take ((i + 1) * 3) = flat (l.take i) ++ hc x := by
    have h3 : (flat (l.take i) ++ hc x).length = (i + 1) * 3 := by rw [List.length_append, hA, hX]; omega
    rw [← List.append_assoc, ← h3, List.take_left]
  rw [e1]
  have h4 : (flat (l.take i) ++ (hc x ++ flat (l.drop i))).length = (l.length + 1) * 3 := by rw [List.length_append, List.length_append, hA, hX, hF]; omega
  rw [← h4, ← List.append_assoc (flat (l.take i) ++ hc x), List.append_assoc (flat (l.take i)) (hc x), List.take_left]
set_option maxHeartbeats 4000000 in
set_option maxRecDepth 20000 in
theorem insert_grow (W : World) (B g cap : Nat) (cur : Array Value) (l : List H) (i : Nat) (x : H) (vb : Nat) (hi : i < l.length) (hl : l.length ≤ 1000) (hcl0 : l.length ≤ cap) (hroom : cap < l.length + 1) (hg : W.heap[g]? = some (.cells cur 30 (0, 0))) (hB : B ≤ W.heap.size) (hsz : cur.size = cap * 3) (hcur : cur.toList.take (l.length * 3) = flat l)
    (hx : Blk W vb 30 (hc x).toArray) :
    Calls Try.prog 63 #[.slice (some ⟨g, 0, none⟩) l.length cap, .int .i64 i, .slice (some ⟨vb, 0, none⟩) 1 1] W (InsPost W B (.slice (some ⟨g, 0, none⟩) l.length cap) l i x) := by
  have hvlt : vb < W.heap.size := hx.lt
  have hglt : g < W.heap.size := (Array.getElem?_eq_some_iff.1 hg).1
  have e1 : ((1 : Int) == 0) = false := by decide
  have e2 : ((i : Int) == (l.length : Int)) = false := by simp; omega
  have hcl : ¬ cap = i := by omega
  have hile : i ≤ l.length := by omega
  have hicap : i ≤ cap := by omega
  have hw1 : IntKind.i64.wrap ((i : Int) + 1) = (i : Int) + 1 := by rw [IntKind.wrap_i64]; omega
  have hw2 : IntKind.i64.wrap ((l.length : Int) + 1) = (l.length : Int) + 1 := by rw [IntKind.wrap_i64]; omega
  have hw3 : IntKind.i64.wrap ((l.length : Int) + 1 - (i : Int)) = ((l.length + 1 - i : Nat) : Int) := by rw [IntKind.wrap_i64]; omega
  have ht1 : ((i : Int) + 1).toNat = i + 1 := by omega
  have hb4 : (0 : Int) ≤ (i : Int) + 1 := by omega
  have hF : (flat (l.drop i)).length = (l.length - i) * 3 := by rw [flat_len, List.length_drop]
  have hFo := flat_one (l.drop i)
  have hrd := reads_row hg hcur (i * 3) (by omega)
  rw [flat_drop] at hrd
  have htk := reads_row hg (show cur.toList.take (i * 3) = flat (l.take i) by rw [← flat_take, ← hcur, List.take_take]; congr 1; omega) 0 (by omega)
  have HF := Lib.hid hF
  have HRD := Lib.hid hrd
  have HTK := Lib.hid htk
  clear hrd htk
  have hsum : i + (l.length + 1 - i) = l.length + 1 := by omega
  go_enter Try.func63, Try.ntmps63
  go_wp2_with (at_builtin
               refine wpList_appZ _ rfl _ _ _ _ rfl 30 (.agg #[.int .i64 0, .int .u64 0, .string ⟨#[]⟩]) 3 32 Try.underlying22 Try.underlying3 info3 rfl (by decide) g i cap (flat (l.take i)) (by rw [flat_len, List.length_take]; omega) (by rfl) (fun j v hj => by have := HTK.out j v (by simpa using hj); simpa [add_lit] using this) .i64 (l.length + 1 - i) (by rfl) (by omega) (by omega) (by omega) (by decide) ?_
               rw [hsum]
               intro cap2 cur2 w2 hc2 hcm2 hsz2 htk2 hg2 hgr2 hlt2
               obtain ⟨w3, hcp1, hg3, hgr3⟩ := copy_x w2 W.heap.size (i * 3) (l.length + 1 - i) cur2 vb x hg2.out (by omega) (by omega) ((show Blk W vb 30 (hc x).toArray from hx).grown hgr2 (by simp)))
  have hcl2 : ¬ cap2 = i := by omega
  have hcl3 : ¬ cap2 = i + 1 := by omega
  have hcl4 : ¬ cap2 < i := by omega
  have hn1 : ¬ ((l.length : Int) + 1 < (i : Int)) := by omega
  have hg3d : w3.drew.heap[W.heap.size]? = some (.cells (lay cur2 (i * 3) (hc x)) 30 (0, 0)) := hg3
  have hne3 : ∀ w', w3.drew.grownBy w' (some W.heap.size) → True := fun _ _ => trivial
  have hrd3 : ∀ j v, (flat (l.drop i))[j]? = some v → w3.drew.cell? ((⟨g, i * 3, none⟩ : Addr).add j) = some v := fun j v h => by
    have h1 := HRD.out j v h
    have e2 : w2.heap[g]? = W.heap[g]? := hgr2.block g hglt (by simp)
    have e3 : w3.heap[g]? = w2.heap[g]? := hgr3.block g (Nat.lt_of_lt_of_le hglt hgr2.size) (by simp; omega)
    rw [add_lit] at h1 ⊢
    rw [← h1]
    show w3.cell? _ = _
    exact World.cell?_of_block (e3.trans e2)
  have HG3 := Lib.hid hg3d
  have HRD3 := Lib.hid hrd3
  have hfit : (i + 1) * 3 + (flat (l.drop i)).length ≤ (lay cur2 (i * 3) (hc x)).size := by
    rw [lay_size (by simp only [hc, List.length_cons, List.length_nil]; omega), hF]
    omega
  have hnn : l.length - i = Nat.min (l.length - i) (l.length + 1 - (i + 1)) := by simp only [Nat.min_def]; split <;> omega
  have HNN := Lib.hid hnn
  have hfin := ins_lay2 x hi hc2 hsz2 htk2
  have HFIN := Lib.hid hfin
  have hs3 : (lay (lay cur2 (i * 3) (hc x)) ((i + 1) * 3) (flat (l.drop i))).size = cur2.size := by rw [lay_size hfit, lay_size (by simp only [hc, List.length_cons, List.length_nil]; omega)]
  have HS3 := Lib.hid hs3
  clear hfin hnn hg3d hrd3 hs3 hF htk2
  go_region_law (refine step_copyK rfl (.tmp 50) (.tmp 53) 22 22 rfl 30 Try.underlying22 3 size3 W.heap.size ((i + 1) * 3) (l.length + 1 - (i + 1)) (cap2 - (i + 1)) ⟨g, i * 3, none⟩ (l.length - i) (cap - i) (by simp [Act.eval, Act.put]) (by simp [Act.eval, Act.put]) (lay cur2 (i * 3) (hc x)) 30 HG3.out (l.length - i) HNN.out (flat (l.drop i)) HF.out HRD3.out hfit hFo ?_
                 intro w4 hg4 hgr4)
  go_wp2_with fail
  go_ret
  have h45 : W.grownBy w4 none := ⟨hgr4.1.trans (hgr3.1.trans hgr2.1), hgr4.2.trans (hgr3.2.trans hgr2.2), hgr4.3.trans (hgr3.3.trans hgr2.3), Nat.le_trans hgr2.4 (Nat.le_trans hgr3.4 hgr4.4), fun k hk hn => (hgr4.5 k (Nat.lt_of_lt_of_le hk (Nat.le_trans hgr2.4 hgr3.4)) (by simp; omega)).trans ((hgr3.5 k (Nat.lt_of_lt_of_le hk hgr2.4) (by simp; omega)).trans (hgr2.5 k hk hn))⟩
  refine ⟨_, rfl, ⟨?_, Or.inr ⟨W.heap.size, cap2, _, rfl, hB, hg4.out, hc2, hcm2, by rw [HS3.out, hsz2], HFIN.out⟩⟩, ⟨h45.1, h45.2, h45.3, h45.4, fun k hk _ => h45.5 k hk (by simp)⟩, Or.inr rfl⟩
  rw [flat_len, ins_len _ _ _ hile]
end Go.Proofs.Ytjohfkpgghnpeaa.SetC
end
