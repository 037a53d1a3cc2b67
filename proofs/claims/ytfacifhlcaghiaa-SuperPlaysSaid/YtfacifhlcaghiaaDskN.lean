/- Contracts of layer 4 (disk): a blank sector; written; wiped. -/
import Derived.Test.YtfacifhlcaghiaaDskX
import Derived.Test.YtfacifhlcaghiaaShelf
import Derived.Test.YtfacifhlcaghiaaNumC1
import Derived.Deep.AppendLies
namespace Go.Proofs.Ytfacifhlcaghiaa.Dsk
open Go Go.RowKit
open Go.Proofs.Ytfacifhlcaghiaa.Gen
open Go.Proofs.Ytfacifhlcaghiaa.Own
open Go.Proofs.Ytfacifhlcaghiaa.RowK
set_option linter.unusedVariables false
set_option linter.unusedSimpArgs false
theorem blank_any (w : World) : Calls Try.prog 46 #[] w fun e w' => e = .returned (.string ⟨blankL.toArray⟩) ∧ Below w.heap.size w w' := by
  go_enter Try.func46, Try.ntmps46
  go_wp2_with fail
  refine (Try.strings_Repeat_main ⟨#[0]⟩ 64 _ (by omega) (by omega) (by show 1 * 64 ≤ _; omega) (by show 0 < 1; omega)).mono ?_; rintro e w1 ⟨rfl, hb⟩
  go_wp2_with fail
  go_ret
  exact ⟨NumC.ret_str (by decide), hb⟩
/-- append, by its run. -/
theorem step_app {P : Program} {w : World} {ops : Array Oper} {o : Oper} {a : Act} {K : Act → World → Prop} {Q : Exit → Act → World → Prop} {E : Prop} (hgd : o.guard = none) (s x : Operand) (t ty : TypeId)
    (ho : o.op = .call { callee := .builtin .append, args := #[s, x], argTypes := #[t, t] }) (hty : o.type = ty) (v xv : Value) (hs : a.eval s = v) (hx : a.eval x = xv) (v' : Value) (w' : World)
    (hrun : (Builtin.append_ #[t, t] ty #[v, xv]).run P w = .ok v' w') (h : K (a.put o.dst v') w') :
    if Region.wanted o (yielded ops a.tmps) = true then Oper.wp P o a w K Q else E := by
  have hw : Region.wanted o (yielded ops a.tmps) = true := by simp [Region.wanted, hgd]
  rw [if_pos hw]
  subst hty
  unfold Oper.wp execOp
  simp only [ho, resolve, invoke, builtin, Sem.run_bind, Sem.run_pure, Result.andThen_ok, List.map_toArray, List.map_cons, List.map_nil, hs, hx, hrun]
  exact h
theorem infoWr : (Try.prog.info? 84).map (fun i => (i.zero, i.size, i.bytes)) = some (some (.agg #[.int .i64 0, .string ⟨#[]⟩]), 2, 24) := by kernel_rfl
theorem IsDk.append {W w6 : World} {B g : Nat} {vA vB : Value} {S : List Sec} {L : List Wr} (d : IsDk W B ⟨g, vA, vB⟩ S L) (b6 : Below W.heap.size W w6) (hB : B ≤ W.heap.size) (hL : L.length + 1 ≤ 1000) {a : Int} {s : Sec} (h0 : 0 ≤ a) (h1 : a < S.length) (hs : s.length ≤ 64) :
    ∃ (gv capv : Nat) (w9 : World), (Builtin.append_ #[80, 80] 80 #[vB, .slice (some ⟨w6.heap.size, 0, none⟩) 1 1]).run Try.prog (w6.alloc (.cells #[.int .i64 a, .string ⟨(padL s).toArray⟩] 84)) = .ok (.slice (some ⟨gv, 0, none⟩) (L.length + 1) capv) w9 ∧
      w9.cell? ⟨g, 1, none⟩ = some vB ∧ w9.frozen? ⟨g, 1, none⟩ = false ∧ IsDk (w9.setCell ⟨g, 1, none⟩ (.slice (some ⟨gv, 0, none⟩) (L.length + 1) capv)) B ⟨g, vA, (.slice (some ⟨gv, 0, none⟩) (L.length + 1) capv)⟩ S (L ++ [⟨a, padL s⟩]) ∧ KeptD W (w9.setCell ⟨g, 1, none⟩ (.slice (some ⟨gv, 0, none⟩) (L.length + 1) capv)) ⟨g, vA, vB⟩ ∧ ∀ k, (⟨g, vA, (.slice (some ⟨gv, 0, none⟩) (L.length + 1) capv)⟩ : Hd).mine k → (⟨g, vA, vB⟩ : Hd).mine k ∨ W.heap.size ≤ k := by
  obtain ⟨i, hi0, hi1, hi2, hi3⟩ := info_one infoWr
  have d6 := d.b b6
  have hbA : Below w6.heap.size w6 (w6.alloc (.cells #[.int .i64 a, .string ⟨(padL s).toArray⟩] 84)) := (Below.refl _ _).alloc (Nat.le_refl _) _
  have d7 := d6.b hbA
  have hsz := b6.size
  have hfew := d.few
  obtain ⟨gv, cap, w9, hrun, hown, hgr, hat, hlt⟩ := run_append_lies (P := Try.prog) (w := w6.alloc (.cells #[.int .i64 a, .string ⟨(padL s).toArray⟩] 84)) 80 80 B 84 i (.agg #[.int .i64 0, .string ⟨#[]⟩]) 2 24 Try.underlying80 hi0 hi1 hi2 hi3 rfl (by decide) vB L.length (flatW L) d7.rl ⟨w6.heap.size, 0, none⟩ 1 1 (flatW [⟨a, padL s⟩]) rfl
    (World.news_of_block (heap_alloc_new w6 _)) (by intro u hu; simp only [flatW, List.mem_cons, List.not_mem_nil, or_false] at hu; rcases hu with rfl | rfl <;> rfl) (by decide) (by unfold maxLen; omega) (by omega) (by simp; omega) (w6.heap.size + 1) (by simp)
  have hgl := d.blk.lt
  have hl := d.lt (k := g) (.inl rfl)
  have hngv : g ≠ gv := fun e => by
    rcases hat with h | h
    · exact d.nB (by rw [e]; exact h)
    · omega
  have hga : w9.heap[g]? = (w6.alloc (.cells #[.int .i64 a, .string ⟨(padL s).toArray⟩] 84)).heap[g]? := hgr.block g d7.blk.lt (fun e => d.nB e.symm)
  have hg9 : w9.heap[g]? = some (.cells #[vA, vB] 82 (0, 0)) := hga.trans d7.blk
  have hmA : ∀ k, vA.ownBlock = some k → w9.heap[k]? = (w6.alloc (.cells #[.int .i64 a, .string ⟨(padL s).toArray⟩] 84)).heap[k]? := fun k hk => hgr.block k (d7.rs.lt k hk).2 (fun e => d.nAB k hk e.symm)
  have hll : (L ++ [(⟨a, padL s⟩ : Wr)]).length = L.length + 1 := by simp
  refine ⟨gv, cap, w9, hrun, by rw [cell_blk hg9]; rfl, by unfold World.frozen?; rw [hg9]; simp, ⟨heap_setD hg9 _, own_moveD (own_moveD d7.rs hmA) (fun k hk => Below.heap_setCell w9 ⟨g, 1, none⟩ _ k (by rintro rfl; exact d.nA hk)), ?_, d.low, d.nA, ?_, ?_, d.ok.write h0 h1 hs, by rw [hll]; exact hL, d.one⟩, ?_, ?_⟩
  · rw [hll, flatW_append]
    exact own_moveD hown (fun k hk => Below.heap_setCell w9 ⟨g, 1, none⟩ _ k (by rintro rfl; simp [Value.ownBlock] at hk; omega))
  · simpa [Value.ownBlock] using fun e => hngv e.symm
  · intro k hk e
    simp only [Value.ownBlock, Option.some.injEq] at e
    subst e
    rcases hat with h | h
    · exact d.nAB _ hk h
    · have := (d6.rs.lt _ hk).2; omega
  · refine ⟨hgr.os.trans (hbA.os.trans b6.os), hgr.tape.trans (hbA.tape.trans b6.tape), hgr.output.trans (hbA.output.trans b6.output), by have := hgr.size; simp [World.setCell] at this ⊢; omega, fun k hk hn => ?_⟩
    rw [Below.heap_setCell w9 ⟨g, 1, none⟩ _ k (fun e => hn (.inl e)), hgr.block k (by simp; omega) (fun e => hn (.inr (.inr e.symm))), hbA.block k (by omega), b6.block k hk]
  · intro k hk
    rcases hk with h | h | h
    · exact .inl (.inl h)
    · exact .inl (.inr (.inl h))
    · simp only [Value.ownBlock, Option.some.injEq] at h
      subst h
      rcases hat with h | h
      · exact .inl (.inr (.inr h))
      · exact .inr (by omega)
set_option maxRecDepth 20000 in
set_option maxHeartbeats 2000000 in
theorem write_in (W : World) (B : Nat) (h : Hd) (S : List Sec) (L : List Wr) (d : IsDk W B h S L) (hL : L.length + 1 ≤ 1000) (n : Nat) (hn : n < S.length) (s : Sec) (hs : s.length ≤ 64) :
    Calls Try.prog 22 #[ptr h, .int .i64 n, .string ⟨s.toArray⟩] W (DkPost W B h S (L ++ [⟨n, padL s⟩]) (.int .i64 0)) := by
  have hh := Lib.hid (has_in W B h S L d n hn)
  obtain ⟨g, vA, vB⟩ := h
  have hB : B ≤ W.heap.size := by have := d.low; have := d.blk.lt; simp only at *; omega
  have hap := fun w6 (b6 : Below W.heap.size W w6) => d.append b6 hB hL (a := n) (s := s) (by omega) (by omega) hs
  have c1 : W.cell? ⟨g, 1, none⟩ = some vB := d.cells.2.1
  have HAP := Lib.hid hap
  have hbl := blankL_len
  have hx1 : (⟨blankL.toArray⟩ : ByteArray).extract s.length 64 = ⟨(blankL.drop s.length).toArray⟩ := by
    rw [quiet_extract, List.take_of_length_le (by rw [List.length_drop, blankL_len]; omega)]
  have hx2 := str_add s (blankL.drop s.length)
  rw [show s ++ blankL.drop s.length = padL s from rfl] at hx2
  have hx3 : ¬ 9223372036854775807 < s.length + (blankL.drop s.length).length := by rw [List.length_drop, blankL_len]; omega
  have hb0 : (0 : Int) ≤ (s.length : Int) := by omega
  have hb1 : (s.length : Int) ≤ 64 := by omega
  have hb2 : decide (64 < (s.length : Int)) = false := decide_eq_false (by omega)
  obtain ⟨A, cap, rfl, _⟩ := own_slice d.rl
  unfold ptr at hh ⊢
  clear hap d
  go_enter Try.func22, Try.ntmps22
  go_wp2_with fail
  refine hh.out.mono ?_; rintro e w1 ⟨rfl, rfl⟩
  go_wp2_with fail
  refine wp_region_noPanic ?_
  refine wp_region_held_drew (S := fun w => AnyW w) (by kernel_rfl) (anyW _) (fun hHeld => ?_)
  refine wpAnyH_take (i := 0) (v := ?_) rfl (by kernel_rfl) (by kernel_rfl) (by kernel_rfl) (fun _ _ _ h => h) (Or.inl ⟨by rfl, ?_⟩) (by assumption) ?_
  rotate_left
  · intro w hSw; (try dsimp only at hSw); go_simp; (first | done | with_reducible rfl)
  try simp only [Act.put, List.setIfInBounds_toArray, List.set_cons_zero, List.set_cons_succ]
  refine wpAnyH_take (i := 1) (v := ?_) rfl (by kernel_rfl) (by kernel_rfl) (by kernel_rfl) (fun _ _ _ h => h) (Or.inl ⟨by rfl, ?_⟩) (by assumption) ?_
  rotate_left
  · intro w hSw; (try dsimp only at hSw); go_simp; (first | done | with_reducible rfl)
  try simp only [Act.put, List.setIfInBounds_toArray, List.set_cons_zero, List.set_cons_succ]
  refine wpAnyH_take (i := 2) (v := ?_) rfl (by kernel_rfl) (by kernel_rfl) (by kernel_rfl) (fun _ _ _ h => h) (Or.inl ⟨by rfl, ?_⟩) (by assumption) ?_
  rotate_left
  · intro w hSw; (try dsimp only at hSw); go_simp; (first | done | with_reducible rfl)
  try simp only [Act.put, List.setIfInBounds_toArray, List.set_cons_zero, List.set_cons_succ]
  refine wpAnyH_take (i := 3) (v := ?_) rfl (by kernel_rfl) (by kernel_rfl) (by kernel_rfl) (fun _ _ _ h => h) (Or.inl ⟨by rfl, ?_⟩) (by assumption) ?_
  rotate_left
  · intro w hSw; (try dsimp only at hSw); go_simp; (first | done | with_reducible rfl)
  try simp only [Act.put, List.setIfInBounds_toArray, List.set_cons_zero, List.set_cons_succ]
  refine wpAnyH_take (i := 5) (v := ?_) rfl (by kernel_rfl) (by kernel_rfl) (by kernel_rfl) (fun _ _ _ h => h) (Or.inl ⟨by rfl, ?_⟩) (by assumption) ?_
  rotate_left
  · intro w hSw; (try dsimp only at hSw); go_simp; (first | done | with_reducible rfl)
  try simp only [Act.put, List.setIfInBounds_toArray, List.set_cons_zero, List.set_cons_succ]
  refine wpAnyH_take (i := 6) (v := ?_) rfl (by kernel_rfl) (by kernel_rfl) (by kernel_rfl) (fun _ _ _ h => h) (Or.inl ⟨by rfl, ?_⟩) (by assumption) ?_
  rotate_left
  · intro w hSw; (try dsimp only at hSw); go_simp; (first | done | with_reducible rfl)
  try simp only [Act.put, List.setIfInBounds_toArray, List.set_cons_zero, List.set_cons_succ]
  refine wpAnyH_take (i := 8) (v := ?_) rfl (by kernel_rfl) (by kernel_rfl) (by kernel_rfl) (fun _ _ _ h => h) (Or.inl ⟨by rfl, ?_⟩) (by assumption) ?_
  rotate_left
  · intro w hSw; (try dsimp only at hSw); go_simp; (first | done | with_reducible rfl)
  try simp only [Act.put, List.setIfInBounds_toArray, List.set_cons_zero, List.set_cons_succ]
  refine wpAnyH_take (i := 9) (v := ?_) rfl (by kernel_rfl) (by kernel_rfl) (by kernel_rfl) (fun _ _ _ h => h) (Or.inl ⟨by rfl, ?_⟩) (by assumption) ?_
  rotate_left
  · intro w hSw; (try dsimp only at hSw); go_simp; (first | done | with_reducible rfl)
  try simp only [Act.put, List.setIfInBounds_toArray, List.set_cons_zero, List.set_cons_succ]
  refine wpAnyH_ready (rs := [4, 7]) (by kernel_rfl) (by simp) ?_
  refine AllReadyH.cons rfl (fun K hK => ?_) (AllReadyH.cons rfl (fun K hK => ?_) (AllReadyH.nil))
  · skip
    go_simp
    refine hK.out _ _ (anyW _) (fun hHeld => ?_)
    clear hK K
    try simp only [Act.put, List.setIfInBounds_toArray, List.set_cons_zero, List.set_cons_succ]
    refine wpAnyH_ready (rs := [7]) (by kernel_rfl) (by simp) ?_
    refine AllReadyH.cons rfl (fun K hK => ?_) (AllReadyH.nil)
    go_simp
    refine (blank_any _).mono ?_
    rintro e w6 ⟨rfl, b6⟩
    have b7 : Below W.heap.size W w6 := (Below.refl _ W).drew.trans b6
    have k6 : w6.cell? ⟨g, 1, none⟩ = some (.slice A L.length cap) := cellB b7 c1
    have k7 : (w6.alloc (.cells #[.int .i64 n, .string ⟨(padL s).toArray⟩] 84)).cell? ⟨g, 1, none⟩ = some (.slice A L.length cap) := cellB ((Below.refl _ _).alloc (Nat.le_refl _) _) k6
    obtain ⟨gv, cv, w9, r9, k9, f9, d9, p9, m9⟩ := HAP.out w6 b7
    refine hK.out _ _ (anyW _) (fun hHeld => ?_)
    clear hK K
    try simp only [Act.put, List.setIfInBounds_toArray, List.set_cons_zero, List.set_cons_succ]
    refine wpAnyH_take (i := 10) (v := ?_) rfl (by kernel_rfl) (by kernel_rfl) (by kernel_rfl) (fun _ _ _ h => h) (Or.inl ⟨by rfl, ?_⟩) (by assumption) ?_
    rotate_left
    · intro w hSw; (try dsimp only at hSw); go_simp; (first | done | with_reducible rfl)
    try simp only [Act.put, List.setIfInBounds_toArray, List.set_cons_zero, List.set_cons_succ]
    refine wpAnyH_take (i := 11) (v := ?_) rfl (by kernel_rfl) (by kernel_rfl) (by kernel_rfl) (fun _ _ _ h => h) (Or.inl ⟨by rfl, ?_⟩) (by assumption) ?_
    rotate_left
    · intro w hSw; (try dsimp only at hSw); go_simp; (first | done | with_reducible rfl)
    try simp only [Act.put, List.setIfInBounds_toArray, List.set_cons_zero, List.set_cons_succ]
    refine wpAnyH_take (i := 12) (v := ?_) rfl (by kernel_rfl) (by kernel_rfl) (by kernel_rfl) (fun _ _ _ h => h) (Or.inl ⟨by rfl, ?_⟩) (by assumption) ?_
    rotate_left
    · intro w hSw; (try dsimp only at hSw); go_simp; (first | done | with_reducible rfl)
    try simp only [Act.put, List.setIfInBounds_toArray, List.set_cons_zero, List.set_cons_succ]
    refine wpAnyH_ready (rs := [13]) (by kernel_rfl) (by simp) ?_
    refine AllReadyH.cons rfl (fun K hK => ?_) (AllReadyH.nil)
    go_simp
    refine hK.out _ _ (anyW _) (fun hHeld => ?_)
    clear hK K
    try simp only [Act.put, List.setIfInBounds_toArray, List.set_cons_zero, List.set_cons_succ]
    refine wpAnyH_ready (rs := [14]) (by kernel_rfl) (by simp) ?_
    refine AllReadyH.cons rfl (fun K hK => ?_) (AllReadyH.nil)
    refine step_app rfl (.tmp 20) (.tmp 29) 80 80 (by rfl) (by rfl) _ _ (by rfl) (by rfl) _ _ r9 ?_
    refine hK.out _ _ (anyW _) (fun hHeld => ?_)
    clear hK K
    try simp only [Act.put, List.setIfInBounds_toArray, List.set_cons_zero, List.set_cons_succ]
    refine wpAnyH_take (i := 15) (v := ?_) rfl (by kernel_rfl) (by kernel_rfl) (by kernel_rfl) (fun _ _ _ h => h) (Or.inl ⟨by rfl, ?_⟩) (by assumption) ?_
    rotate_left
    · intro w hSw; (try dsimp only at hSw); go_simp; (first | done | with_reducible rfl)
    try simp only [Act.put, List.setIfInBounds_toArray, List.set_cons_zero, List.set_cons_succ]
    refine wpAnyH_take (i := 16) (v := ?_) rfl (by kernel_rfl) (by kernel_rfl) (by kernel_rfl) (fun _ _ _ h => h) (Or.inl ⟨by rfl, ?_⟩) (by assumption) ?_
    rotate_left
    · intro w hSw; (try dsimp only at hSw); go_simp; (first | done | with_reducible rfl)
    try simp only [Act.put, List.setIfInBounds_toArray, List.set_cons_zero, List.set_cons_succ]
    refine wpAnyH_ready (rs := [17]) (by kernel_rfl) (by simp) ?_
    refine AllReadyH.cons rfl (fun K hK => ?_) (AllReadyH.nil)
    go_simp
    refine hK.out _ _ (anyW _) (fun hHeld => ?_)
    clear hK K
    try simp only [Act.put, List.setIfInBounds_toArray, List.set_cons_zero, List.set_cons_succ]
    refine wpAnyH_done (by kernel_rfl) ?_ _
    refine NoPanic.normal ?_
    go_wp2_with fail
    go_ret
    exact ⟨rfl, vA, _, d9, p9, m9⟩
  · skip
    go_simp
    refine (blank_any _).mono ?_
    rintro e w6 ⟨rfl, b6⟩
    have b7 : Below W.heap.size W w6 := (Below.refl _ W).drew.trans b6
    have k6 : w6.cell? ⟨g, 1, none⟩ = some (.slice A L.length cap) := cellB b7 c1
    have k7 : (w6.alloc (.cells #[.int .i64 n, .string ⟨(padL s).toArray⟩] 84)).cell? ⟨g, 1, none⟩ = some (.slice A L.length cap) := cellB ((Below.refl _ _).alloc (Nat.le_refl _) _) k6
    obtain ⟨gv, cv, w9, r9, k9, f9, d9, p9, m9⟩ := HAP.out w6 b7
    refine hK.out _ _ (anyW _) (fun hHeld => ?_)
    clear hK K
    try simp only [Act.put, List.setIfInBounds_toArray, List.set_cons_zero, List.set_cons_succ]
    refine wpAnyH_take (i := 10) (v := ?_) rfl (by kernel_rfl) (by kernel_rfl) (by kernel_rfl) (fun _ _ _ h => h) (Or.inl ⟨by rfl, ?_⟩) (by assumption) ?_
    rotate_left
    · intro w hSw; (try dsimp only at hSw); go_simp; (first | done | with_reducible rfl)
    try simp only [Act.put, List.setIfInBounds_toArray, List.set_cons_zero, List.set_cons_succ]
    refine wpAnyH_take (i := 11) (v := ?_) rfl (by kernel_rfl) (by kernel_rfl) (by kernel_rfl) (fun _ _ _ h => h) (Or.inl ⟨by rfl, ?_⟩) (by assumption) ?_
    rotate_left
    · intro w hSw; (try dsimp only at hSw); go_simp; (first | done | with_reducible rfl)
    try simp only [Act.put, List.setIfInBounds_toArray, List.set_cons_zero, List.set_cons_succ]
    refine wpAnyH_take (i := 12) (v := ?_) rfl (by kernel_rfl) (by kernel_rfl) (by kernel_rfl) (fun _ _ _ h => h) (Or.inl ⟨by rfl, ?_⟩) (by assumption) ?_
    rotate_left
    · intro w hSw; (try dsimp only at hSw); go_simp; (first | done | with_reducible rfl)
    try simp only [Act.put, List.setIfInBounds_toArray, List.set_cons_zero, List.set_cons_succ]
    refine wpAnyH_ready (rs := [4, 13]) (by kernel_rfl) (by simp) ?_
    refine AllReadyH.cons rfl (fun K hK => ?_) (AllReadyH.cons rfl (fun K hK => ?_) (AllReadyH.nil))
    · skip
      go_simp
      refine hK.out _ _ (anyW _) (fun hHeld => ?_)
      clear hK K
      try simp only [Act.put, List.setIfInBounds_toArray, List.set_cons_zero, List.set_cons_succ]
      refine wpAnyH_ready (rs := [13]) (by kernel_rfl) (by simp) ?_
      refine AllReadyH.cons rfl (fun K hK => ?_) (AllReadyH.nil)
      go_simp
      refine hK.out _ _ (anyW _) (fun hHeld => ?_)
      clear hK K
      try simp only [Act.put, List.setIfInBounds_toArray, List.set_cons_zero, List.set_cons_succ]
      refine wpAnyH_ready (rs := [14]) (by kernel_rfl) (by simp) ?_
      refine AllReadyH.cons rfl (fun K hK => ?_) (AllReadyH.nil)
      refine step_app rfl (.tmp 20) (.tmp 29) 80 80 (by rfl) (by rfl) _ _ (by rfl) (by rfl) _ _ r9 ?_
      refine hK.out _ _ (anyW _) (fun hHeld => ?_)
      clear hK K
      try simp only [Act.put, List.setIfInBounds_toArray, List.set_cons_zero, List.set_cons_succ]
      refine wpAnyH_take (i := 15) (v := ?_) rfl (by kernel_rfl) (by kernel_rfl) (by kernel_rfl) (fun _ _ _ h => h) (Or.inl ⟨by rfl, ?_⟩) (by assumption) ?_
      rotate_left
      · intro w hSw; (try dsimp only at hSw); go_simp; (first | done | with_reducible rfl)
      try simp only [Act.put, List.setIfInBounds_toArray, List.set_cons_zero, List.set_cons_succ]
      refine wpAnyH_take (i := 16) (v := ?_) rfl (by kernel_rfl) (by kernel_rfl) (by kernel_rfl) (fun _ _ _ h => h) (Or.inl ⟨by rfl, ?_⟩) (by assumption) ?_
      rotate_left
      · intro w hSw; (try dsimp only at hSw); go_simp; (first | done | with_reducible rfl)
      try simp only [Act.put, List.setIfInBounds_toArray, List.set_cons_zero, List.set_cons_succ]
      refine wpAnyH_ready (rs := [17]) (by kernel_rfl) (by simp) ?_
      refine AllReadyH.cons rfl (fun K hK => ?_) (AllReadyH.nil)
      go_simp
      refine hK.out _ _ (anyW _) (fun hHeld => ?_)
      clear hK K
      try simp only [Act.put, List.setIfInBounds_toArray, List.set_cons_zero, List.set_cons_succ]
      refine wpAnyH_done (by kernel_rfl) ?_ _
      refine NoPanic.normal ?_
      go_wp2_with fail
      go_ret
      exact ⟨rfl, vA, _, d9, p9, m9⟩
    · skip
      go_simp
      refine hK.out _ _ (anyW _) (fun hHeld => ?_)
      clear hK K
      try simp only [Act.put, List.setIfInBounds_toArray, List.set_cons_zero, List.set_cons_succ]
      refine wpAnyH_ready (rs := [4]) (by kernel_rfl) (by simp) ?_
      refine AllReadyH.cons rfl (fun K hK => ?_) (AllReadyH.nil)
      go_simp
      refine hK.out _ _ (anyW _) (fun hHeld => ?_)
      clear hK K
      try simp only [Act.put, List.setIfInBounds_toArray, List.set_cons_zero, List.set_cons_succ]
      refine wpAnyH_ready (rs := [14]) (by kernel_rfl) (by simp) ?_
      refine AllReadyH.cons rfl (fun K hK => ?_) (AllReadyH.nil)
      refine step_app rfl (.tmp 20) (.tmp 29) 80 80 (by rfl) (by rfl) _ _ (by rfl) (by rfl) _ _ r9 ?_
      refine hK.out _ _ (anyW _) (fun hHeld => ?_)
      clear hK K
      try simp only [Act.put, List.setIfInBounds_toArray, List.set_cons_zero, List.set_cons_succ]
      refine wpAnyH_take (i := 15) (v := ?_) rfl (by kernel_rfl) (by kernel_rfl) (by kernel_rfl) (fun _ _ _ h => h) (Or.inl ⟨by rfl, ?_⟩) (by assumption) ?_
      rotate_left
      · intro w hSw; (try dsimp only at hSw); go_simp; (first | done | with_reducible rfl)
      try simp only [Act.put, List.setIfInBounds_toArray, List.set_cons_zero, List.set_cons_succ]
      refine wpAnyH_take (i := 16) (v := ?_) rfl (by kernel_rfl) (by kernel_rfl) (by kernel_rfl) (fun _ _ _ h => h) (Or.inl ⟨by rfl, ?_⟩) (by assumption) ?_
      rotate_left
      · intro w hSw; (try dsimp only at hSw); go_simp; (first | done | with_reducible rfl)
      try simp only [Act.put, List.setIfInBounds_toArray, List.set_cons_zero, List.set_cons_succ]
      refine wpAnyH_ready (rs := [17]) (by kernel_rfl) (by simp) ?_
      refine AllReadyH.cons rfl (fun K hK => ?_) (AllReadyH.nil)
      go_simp
      refine hK.out _ _ (anyW _) (fun hHeld => ?_)
      clear hK K
      try simp only [Act.put, List.setIfInBounds_toArray, List.set_cons_zero, List.set_cons_succ]
      refine wpAnyH_done (by kernel_rfl) ?_ _
      refine NoPanic.normal ?_
      go_wp2_with fail
      go_ret
      exact ⟨rfl, vA, _, d9, p9, m9⟩
theorem write_out (W : World) (p : Option Hd) (B : Nat) (S : List Sec) (L : List Wr) (a : Int) (s : Sec) (hs : s.length ≤ 9223372036854775807) (h : ∀ h, p = some h → IsDk W B h S L ∧ (¬ (0 ≤ a ∧ a < S.length) ∨ 64 < s.length)) :
    Calls Try.prog 22 #[.pointer (p.map fun h => ⟨h.g, 0, none⟩), .int .i64 a, .string ⟨s.toArray⟩] W fun e w' => e = .returned (.int .i64 1) ∧ W = w' := by
  have hh : (Calls Try.prog 48 #[.pointer (p.map fun h => ⟨h.g, 0, none⟩), .int .i64 a] W fun e w' => e = .returned (.bool false) ∧ W = w') ∨ 64 < s.length ∧ Calls Try.prog 48 #[.pointer (p.map fun h => ⟨h.g, 0, none⟩), .int .i64 a] W fun e w' => e = .returned (.bool true) ∧ W = w' := by
    cases p with
    | none => exact .inl (has_nil W a)
    | some h' =>
      obtain ⟨d, hd⟩ := h h' rfl
      by_cases hin : 0 ≤ a ∧ a < S.length
      · obtain ⟨n, rfl⟩ : ∃ n : Nat, a = n := ⟨a.toNat, by omega⟩
        exact .inr ⟨hd.resolve_left (fun e => e hin), has_in W B h' S L d n (by omega)⟩
      · exact .inl (has_out W B h' S L d a hin)
  clear h
  rcases hh with hh | ⟨h64, hh⟩
  · have HH := Lib.hid hh
    clear hh
    go_enter Try.func22, Try.ntmps22
    go_wp2_with fail
    refine HH.out.mono ?_; rintro e w1 ⟨rfl, rfl⟩
    go_wp2_with fail
    go_ret
    exact ⟨rfl, rfl⟩
  · have HH := Lib.hid hh
    have hd : decide (64 < (s.length : Int)) = true := decide_eq_true (by omega)
    clear hh
    go_enter Try.func22, Try.ntmps22
    go_wp2_with fail
    refine HH.out.mono ?_; rintro e w1 ⟨rfl, rfl⟩
    go_wp2_with fail
    go_ret
    exact ⟨rfl, rfl⟩
end Go.Proofs.Ytfacifhlcaghiaa.Dsk
