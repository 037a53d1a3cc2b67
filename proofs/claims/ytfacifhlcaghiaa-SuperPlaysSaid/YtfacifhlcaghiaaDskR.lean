/- Contracts of layer 4 (disk): wiped; made. -/
import Derived.Test.YtfacifhlcaghiaaDskN
namespace Go.Proofs.Ytfacifhlcaghiaa.Dsk
open Go Go.RowKit
open Go.Proofs.Ytfacifhlcaghiaa.Gen
open Go.Proofs.Ytfacifhlcaghiaa.Own
open Go.Proofs.Ytfacifhlcaghiaa.RowK
set_option linter.unusedVariables false
set_option linter.unusedSimpArgs false
theorem wipeN_all {S : List Sec} : wipeN S S.length = List.replicate S.length blankL := by
  unfold wipeN
  rw [List.drop_of_length_le (Nat.le_refl _), List.append_nil]
set_option maxRecDepth 20000 in
set_option maxHeartbeats 2000000 in
theorem wipe_any (W : World) (B : Nat) (h : Hd) (S : List Sec) (L : List Wr) (d : IsDk W B h S L) : Calls Try.prog 21 #[ptr h] W (DkPost W B h (List.replicate S.length blankL) [] (.tuple #[])) := by
  unfold ptr
  obtain ⟨g, vA, vB⟩ := h
  obtain ⟨g1, cap, rfl, hg1, hne, _⟩ := d.rowA
  have c0 : W.cell? ⟨g, 0, none⟩ = some (.slice (some ⟨g1, 0, none⟩) S.length cap) := d.cells.1
  have hn := d.ok.n
  have HD := Lib.hid d
  clear d
  go_enter Try.func21, Try.ntmps21
  go_wp2_with fail
  go_loopw [10] (fun iv w => ∃ k : Nat, iv = .int .i64 k ∧ k ≤ S.length ∧ Hid (IsDk w B ⟨g, .slice (some ⟨g1, 0, none⟩) S.length cap, vB⟩ (wipeN S k) L ∧ KeptD W w ⟨g, .slice (some ⟨g1, 0, none⟩) S.length cap, vB⟩)) (fun iv _ => S.length - (intOf iv).toNat)
  case atStart => exact ⟨0, rfl, by omega, Lib.hid ⟨by rw [show wipeN S 0 = S from rfl]; exact HD.out, KeptD.refl _ _⟩⟩
  case round =>
    obtain ⟨k, rfl, hk, HI⟩ := hrel
    by_cases hlt : k < S.length
    · have hl := wipeN_len hk
      have e0 : wr.cell? ⟨g, 0, none⟩ = some (.slice (some ⟨g1, 0, none⟩) S.length cap) := HI.out.1.cells.1
      obtain ⟨e4, e5⟩ := HI.out.1.atA (j := k) (by rw [hl]; exact hlt)
      have hg1l : g1 < wr.heap.size := (HI.out.1.rs.lt g1 rfl).2
      have i0 : (0 : Int) ≤ (k : Int) := by omega
      have i1 : (k : Int) < (S.length : Int) := by omega
      have hbl := blankL_len
      have HL := Lib.hid hl
      clear hl
      go_wp2_with fail
      refine wp_region_noPanic ?_
      refine wp_region_held_drew (S := fun w => AnyW w) (by kernel_rfl) (anyW _) (fun hHeld => ?_)
      refine wpAnyH_take (i := 0) (v := ?_) rfl (by kernel_rfl) (by kernel_rfl) (by kernel_rfl) (fun _ _ _ h => h) (Or.inl ⟨by rfl, ?_⟩) (by assumption) ?_
      rotate_left
      · intro w hSw; (try dsimp only at hSw); go_simp; (first | done | with_reducible rfl)
      try simp only [Act.put, List.setIfInBounds_toArray, List.set_cons_zero, List.set_cons_succ]
      refine wpAnyH_take (i := 1) (v := ?_) rfl (by kernel_rfl) (by kernel_rfl) (by kernel_rfl) (fun _ _ _ h => h) (Or.inl ⟨by rfl, ?_⟩) (by assumption) ?_
      rotate_left
      · intro w hSw; (try dsimp only at hSw); go_simp; (first | done | with_reducible rfl)
      try simp only [Act.put, List.setIfInBounds_toArray, List.set_cons_zero, List.set_cons_succ]
      refine wpAnyH_take (i := 2) (v := ?_) rfl (by kernel_rfl) (by kernel_rfl) (by kernel_rfl) (fun _ _ _ h => h) (Or.inl ⟨by rfl, ?_⟩) (by assumption) ?_
      rotate_left
      · intro w hSw; (try dsimp only at hSw); go_simp; (first | done | with_reducible rfl)
      try simp only [Act.put, List.setIfInBounds_toArray, List.set_cons_zero, List.set_cons_succ]
      refine wpAnyH_take (i := 4) (v := ?_) rfl (by kernel_rfl) (by kernel_rfl) (by kernel_rfl) (fun _ _ _ h => h) (Or.inl ⟨by rfl, ?_⟩) (by assumption) ?_
      rotate_left
      · intro w hSw; (try dsimp only at hSw); go_simp; (first | done | with_reducible rfl)
      try simp only [Act.put, List.setIfInBounds_toArray, List.set_cons_zero, List.set_cons_succ]
      refine wpAnyH_ready (rs := [3, 5]) (by kernel_rfl) (by simp) ?_
      refine AllReadyH.cons rfl (fun K hK => ?_) (AllReadyH.cons rfl (fun K hK => ?_) (AllReadyH.nil))
      · skip
        go_simp
        refine hK.out _ _ (anyW _) (fun hHeld => ?_)
        clear hK K
        try simp only [Act.put, List.setIfInBounds_toArray, List.set_cons_zero, List.set_cons_succ]
        refine wpAnyH_ready (rs := [5]) (by kernel_rfl) (by simp) ?_
        refine AllReadyH.cons rfl (fun K hK => ?_) (AllReadyH.nil)
        go_simp
        refine (blank_any _).mono ?_
        rintro e w6 ⟨rfl, b6⟩
        have b7 : Below wr.heap.size wr w6 := (Below.refl _ wr).drew.trans b6
        have k6 : w6.cell? ⟨g, 0, none⟩ = some (.slice (some ⟨g1, 0, none⟩) S.length cap) := cellB b7 e0
        have k8 := cellB b7 e4
        have k9 : w6.frozen? ⟨g1, k, none⟩ = false := (b7.frozen (p := ⟨g1, k, none⟩) hg1l).trans e5
        refine hK.out _ _ (anyW _) (fun hHeld => ?_)
        clear hK K
        try simp only [Act.put, List.setIfInBounds_toArray, List.set_cons_zero, List.set_cons_succ]
        refine wpAnyH_take (i := 6) (v := ?_) rfl (by kernel_rfl) (by kernel_rfl) (by kernel_rfl) (fun _ _ _ h => h) (Or.inl ⟨by rfl, ?_⟩) (by assumption) ?_
        rotate_left
        · intro w hSw; (try dsimp only at hSw); go_simp; (first | done | with_reducible rfl)
        try simp only [Act.put, List.setIfInBounds_toArray, List.set_cons_zero, List.set_cons_succ]
        refine wpAnyH_ready (rs := [7]) (by kernel_rfl) (by simp) ?_
        refine AllReadyH.cons rfl (fun K hK => ?_) (AllReadyH.nil)
        go_simp
        refine hK.out _ _ (anyW _) (fun hHeld => ?_)
        clear hK K
        try simp only [Act.put, List.setIfInBounds_toArray, List.set_cons_zero, List.set_cons_succ]
        refine wpAnyH_done (by kernel_rfl) ?_ _
        refine NoPanic.normal ?_
        go_wp2_with fail
        go_roundw
        case rel => (have hf := (HI.out.1.b b7).setS HL.out hlt hbl; refine ⟨k + 1, by go_num, by omega, Lib.hid ?_⟩; rw [wipeN_succ hlt]; exact ⟨hf.1, (HI.out.2.b b7).then hf.2⟩)
        case measure => (simp [intOf]; omega)
      · skip
        go_simp
        refine (blank_any _).mono ?_
        rintro e w6 ⟨rfl, b6⟩
        have b7 : Below wr.heap.size wr w6 := (Below.refl _ wr).drew.trans b6
        have k6 : w6.cell? ⟨g, 0, none⟩ = some (.slice (some ⟨g1, 0, none⟩) S.length cap) := cellB b7 e0
        have k8 := cellB b7 e4
        have k9 : w6.frozen? ⟨g1, k, none⟩ = false := (b7.frozen (p := ⟨g1, k, none⟩) hg1l).trans e5
        refine hK.out _ _ (anyW _) (fun hHeld => ?_)
        clear hK K
        try simp only [Act.put, List.setIfInBounds_toArray, List.set_cons_zero, List.set_cons_succ]
        refine wpAnyH_ready (rs := [3]) (by kernel_rfl) (by simp) ?_
        refine AllReadyH.cons rfl (fun K hK => ?_) (AllReadyH.nil)
        go_simp
        refine hK.out _ _ (anyW _) (fun hHeld => ?_)
        clear hK K
        try simp only [Act.put, List.setIfInBounds_toArray, List.set_cons_zero, List.set_cons_succ]
        refine wpAnyH_take (i := 6) (v := ?_) rfl (by kernel_rfl) (by kernel_rfl) (by kernel_rfl) (fun _ _ _ h => h) (Or.inl ⟨by rfl, ?_⟩) (by assumption) ?_
        rotate_left
        · intro w hSw; (try dsimp only at hSw); go_simp; (first | done | with_reducible rfl)
        try simp only [Act.put, List.setIfInBounds_toArray, List.set_cons_zero, List.set_cons_succ]
        refine wpAnyH_ready (rs := [7]) (by kernel_rfl) (by simp) ?_
        refine AllReadyH.cons rfl (fun K hK => ?_) (AllReadyH.nil)
        go_simp
        refine hK.out _ _ (anyW _) (fun hHeld => ?_)
        clear hK K
        try simp only [Act.put, List.setIfInBounds_toArray, List.set_cons_zero, List.set_cons_succ]
        refine wpAnyH_done (by kernel_rfl) ?_ _
        refine NoPanic.normal ?_
        go_wp2_with fail
        go_roundw
        case rel => (have hf := (HI.out.1.b b7).setS HL.out hlt hbl; refine ⟨k + 1, by go_num, by omega, Lib.hid ?_⟩; rw [wipeN_succ hlt]; exact ⟨hf.1, (HI.out.2.b b7).then hf.2⟩)
        case measure => (simp [intOf]; omega)
    · obtain rfl : k = S.length := by omega
      obtain ⟨hdk, hkp⟩ := HI.out
      rw [wipeN_all] at hdk
      obtain ⟨A, cap2, rfl, _⟩ := own_slice hdk.rl
      have e1 : wr.cell? ⟨g, 1, none⟩ = some (.slice A L.length cap2) := hdk.cells.2.1
      have e2 : wr.frozen? ⟨g, 1, none⟩ = false := hdk.cells.2.2.2
      have HDK := Lib.hid hdk
      have HKP := Lib.hid hkp
      clear hdk hkp HI
      go_wp2_with fail
      (first | refine bodyPost_end (results_none rfl _ _ _) rfl ?_ | refine bodyPost_ret (results_none rfl _ _ _) rfl ?_)
      exact ⟨rfl, _, _, HDK.out.clear.1, HKP.out.then HDK.out.clear.2, fun k hk => .inl (mine_clear k hk)⟩
theorem made_strs (m : Nat) : madeCells (Value.string ⟨#[]⟩).cells m = Array.replicate m (.string ⟨#[]⟩) := by
  unfold madeCells
  apply Array.ext
  · simp
  · intro i h1 h2
    simp [Value.cells, Nat.mod_one]
theorem make_strs (m : Nat) (hm : m ≤ 4096) (w : World) : (Instr.makeSlice 27 (.int .i64 (m : Int)) (.int .i64 (m : Int))).run Try.prog w = .ok (.slice (some ⟨w.heap.size, 0, none⟩) m m) (w.alloc (.cells (Array.replicate m (.string ⟨#[]⟩)) 9)) := by
  obtain ⟨i, h1, h2, h3, h4⟩ := Own.info_one (P := Try.prog) (e := 9) (z := .string ⟨#[]⟩) (s := 1) (b := 16) (by kernel_rfl)
  have := run_makeSlice (P := Try.prog) w 27 9 i _ Try.underlying27 h1 h2 .i64 .i64 (m : Int) (m : Int) (by omega) (by omega) (by rw [h3, Int.toNat_natCast]; omega) (by rw [h4]; omega) (by omega)
  rw [this, h3, Int.toNat_natCast, Nat.mul_one, made_strs]
theorem size1 : ∀ w, (sizeOf 9).run Try.prog w = .ok 1 w := fun w => by kernel_rfl
theorem reads_blk {w : World} {g : Nat} {cur : Array Value} {t : TypeId} (h : w.heap[g]? = some (.cells cur t (0, 0))) {cs : List Value} {m : Nat} (hc : cur.toList.take m = cs) : ∀ j v, cs[j]? = some v → w.cell? ((⟨g, 0, none⟩ : Addr).add j) = some v := fun j v hv => by
  rw [add_lit, Nat.zero_add, cell_blk h]
  rw [← hc, List.getElem?_take] at hv
  split at hv
  · simpa using hv
  · cases hv
theorem rep_one (m : Nat) (v : Value) (h : v.oneCell' = true) : ∀ u ∈ List.replicate m v, u.oneCell' = true := fun u hu => by rw [(List.mem_replicate.1 hu).2]; exact h
theorem rep_lay {cur : Array Value} {q m n : Nat} {v : Value} (hs : cur.size = n) (hq : q + m ≤ n) (hc : cur.toList.take q = List.replicate q v) : (lay cur q (List.replicate m v)).toList.take (q + m) = List.replicate (q + m) v := by
  rw [lay_toList, hc, List.length_replicate, ← List.append_assoc, List.replicate_append_replicate]
  exact List.take_left' List.length_replicate
def RepPost (W : World) (n : Nat) (v : Value) (e : Ending) (w' : World) : Prop :=
  e = .returned (.slice (some ⟨W.heap.size, 0, none⟩) n n) ∧ w'.ownsRow W.heap.size 9 1 (.slice (some ⟨W.heap.size, 0, none⟩) n n) n (List.replicate n v) ∧ Below W.heap.size W w'
set_option maxRecDepth 20000 in
set_option maxHeartbeats 4000000 in
theorem repeat_any (W : World) (n : Nat) (h1 : 1 ≤ n) (hn : n ≤ 4096) (b : Nat) (s : Sec) (hb : Blk W b 9 #[sv s]) : Calls Try.prog 45 #[.slice (some ⟨b, 0, none⟩) 1 1, .int .i64 n] W (RepPost W n (sv s)) := by
  have hmul := fun w => Try.bits_Mul 1 n (by omega) (by omega) w
  rw [Nat.one_mul, Nat.div_eq_of_lt (show n < 18446744073709551616 by omega), Nat.mod_eq_of_lt (show n < 18446744073709551616 by omega)] at hmul
  have hmk := make_strs n hn W
  have hb0 := (Below.refl W.heap.size W).alloc (Nat.le_refl _) (.cells (Array.replicate n (.string ⟨#[]⟩)) 9)
  have hg0 : (W.alloc (.cells (Array.replicate n (.string ⟨#[]⟩)) 9)).heap[W.heap.size]? = some (.cells (Array.replicate n (.string ⟨#[]⟩)) 9 (0, 0)) := heap_alloc_new W _
  have hsz0 : (W.alloc (.cells (Array.replicate n (.string ⟨#[]⟩)) 9)).heap.size = W.heap.size + 1 := by simp
  have hb1 : Blk (W.alloc (.cells (Array.replicate n (.string ⟨#[]⟩)) 9)) b 9 #[sv s] := hb.b ((Below.refl _ _).alloc (Nat.le_refl _) _)
  generalize W.alloc (.cells (Array.replicate n (.string ⟨#[]⟩)) 9) = w0 at hmk hb0 hg0 hsz0 hb1
  have hcp := run_copyK w0 27 27 3 9 Try.underlying27 1 size1 W.heap.size 0 n n ⟨b, 0, none⟩ 1 1 _ _ hg0 1 (by simp only [Nat.min_def]; split <;> omega) [sv s] rfl (fun j v hv => by rw [add_lit, Nat.zero_add, hb1.cell]; simpa using hv) (by simp; omega) (fun u hu => by obtain rfl := List.mem_singleton.1 hu; rfl)
  have hg1 := setRow_heap w0 W.heap.size (Array.replicate n (.string ⟨#[]⟩)) (lay (Array.replicate n (.string ⟨#[]⟩)) 0 [sv s]) 9 (0, 0) hg0
  have hgr1 : w0.grownBy (w0.setRow W.heap.size (lay (Array.replicate n (.string ⟨#[]⟩)) 0 [sv s])) (some W.heap.size) := ⟨rfl, rfl, rfl, by simp [World.setRow], fun i _ hi => setRow_other w0 W.heap.size i _ (fun e => hi (by rw [e]))⟩
  have hcz : (lay (Array.replicate n (Value.string ⟨#[]⟩)) 0 [sv s]).size = n := by rw [lay_size (by simp; omega)]; simp
  have hct : (lay (Array.replicate n (Value.string ⟨#[]⟩)) 0 [sv s]).toList.take 1 = List.replicate 1 (sv s) := by rw [lay_toList]; rfl
  generalize w0.setRow W.heap.size (lay (Array.replicate n (.string ⟨#[]⟩)) 0 [sv s]) = w1 at hcp hg1 hgr1
  generalize lay (Array.replicate n (Value.string ⟨#[]⟩)) 0 [sv s] = cur1 at hg1 hcz hct
  have hst : Below W.heap.size W w1 := hb0.grown hgr1 (by omega) (fun k e => by injection e with e; omega)
  have HG1 := Lib.hid hg1
  have HCZ := Lib.hid hcz
  have HCT := Lib.hid hct
  have HMUL := Lib.hid hmul
  clear hg0 hb1 hb0 hgr1 hg1 hcz hct hmul
  have h0n : decide (9223372036854775807 < (n : Int)) = false := decide_eq_false (by omega)
  have h1n : decide ((n : Int) < 0) = false := decide_eq_false (by omega)
  obtain ⟨G, hG⟩ : ∃ G, W.heap.size = G := ⟨_, rfl⟩
  unfold RepPost
  rw [hG] at hmk hcp hst HG1 ⊢
  have HGG := Lib.hid hG
  clear hG hsz0
  go_enter Try.func45, Try.ntmps45
  go_wp2_with fail
  refine (HMUL.out _).mono ?_; rintro e w' ⟨rfl, hw⟩
  rw [hw]
  clear hw w'
  go_wp2_with fail
  go_loopw [8] (fun qv w => ∃ q : Nat, ∃ cur : Array Value, qv = .int .i64 q ∧ 1 ≤ q ∧ q ≤ n ∧ Hid (w.heap[G]? = some (.cells cur 9 (0, 0)) ∧ cur.size = n ∧ cur.toList.take q = List.replicate q (sv s)) ∧ Below G W w) (fun qv _ => n - (intOf qv).toNat)
  case atStart => exact ⟨1, cur1, rfl, Nat.le_refl _, h1, Lib.hid ⟨HG1.out, HCZ.out, HCT.out⟩, hst⟩
  case round =>
    obtain ⟨q, cur, rfl, hq1, hqn, HC, hb⟩ := hrel
    by_cases hlt : q < n
    · have hcl : ¬ n = q := by omega
      have i0 : (0 : Int) ≤ (q : Int) := by omega
      have i1 : (q : Int) ≤ (n : Int) := by omega
      obtain ⟨m, hm⟩ : ∃ m, m = Nat.min q (n - q) := ⟨_, rfl⟩
      have hm1 : 1 ≤ m := by rw [hm]; simp only [Nat.min_def]; split <;> omega
      have hm2 : q + m ≤ n := by rw [hm]; simp only [Nat.min_def]; split <;> omega
      have hmq : m ≤ q := by rw [hm]; simp only [Nat.min_def]; split <;> omega
      have hgd : wr.drew.heap[G]? = some (.cells cur 9 (0, 0)) := HC.out.1
      have hsrc := reads_blk hgd (cs := List.replicate m (sv s)) (m := m) (by
        have h := HC.out.2.2
        have h2 := congrArg (List.take m) h
        rw [List.take_take, Nat.min_eq_left hmq, List.take_replicate, Nat.min_eq_left hmq] at h2
        exact h2)
      have HGD := Lib.hid hgd
      have HSRC := Lib.hid hsrc
      have HM := Lib.hid hm
      have hlc : (List.replicate m (sv s)).length = m * 1 := by rw [List.length_replicate, Nat.mul_one]
      have HLC := Lib.hid hlc
      have hfit : q + (List.replicate m (sv s)).length ≤ cur.size := by rw [HC.out.2.1, List.length_replicate]; exact hm2
      have HFIT := Lib.hid hfit
      have hwr : IntKind.i64.wrap ((q : Int) + (m : Int)) = (q : Int) + (m : Int) := by rw [IntKind.wrap_i64]; omega
      clear hm hgd hsrc hlc hfit
      go_wp2_with fail
      go_region_law (refine step_copyK rfl (.tmp 41) (.tmp 44) 27 27 rfl 9 Try.underlying27 1 size1 G q (n - q) (n - q) ⟨G, 0, none⟩ q n (by simp [Act.eval, Act.put]) (by simp [Act.eval, Act.put]) cur 9 HGD.out m HM.out (List.replicate m (sv s)) HLC.out HSRC.out HFIT.out (rep_one m _ rfl) ?_
                     intro w4 hg4 hgr4)
      simp only [Act.put, List.getElem_toArray, List.getElem_cons_succ, List.getElem_cons_zero, List.setIfInBounds_toArray, List.set_cons_succ, List.set_cons_zero]
      go_wp2_with fail
      go_roundw
      case rel => exact ⟨q + m, lay cur q (List.replicate m (sv s)), by go_num, by omega, hm2, Lib.hid ⟨hg4.out, by rw [lay_size HFIT.out]; exact HC.out.2.1, rep_lay HC.out.2.1 hm2 HC.out.2.2⟩, hb.drew.grown hgr4 (by have := hb.size; have := HGG.out; simp; omega) (fun k e => by injection e with e; omega)⟩
      case measure => simp [intOf]; omega
    · obtain rfl : q = n := by omega
      go_wp2_with fail
      go_ret
      exact ⟨rfl, ⟨by rw [List.length_replicate, Nat.mul_one], .inr ⟨G, q, cur, rfl, Nat.le_refl _, HC.out.1, Nat.le_refl _, by unfold maxLen; omega, by rw [HC.out.2.1, Nat.mul_one], by rw [Nat.mul_one]; exact HC.out.2.2⟩⟩, hb⟩
end Go.Proofs.Ytfacifhlcaghiaa.Dsk
