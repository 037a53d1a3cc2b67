/- Contracts of layer 4 (disk): made sure, lost, wiped. -/
import Derived.Test.YtfacifhlcaghiaaDskC
import Derived.Deep.RegionHeld3
import Derived.StillTailTactics
import Derived.Deep.DeepCutAuto
import Derived.Deep.CutBlock
import Derived.Deep.LoopGhost
import Derived.BigFrame
namespace Go.Proofs.Ytfacifhlcaghiaa.Dsk
open Go Go.RowKit
open Go.Proofs.Ytfacifhlcaghiaa.Gen
open Go.Proofs.Ytfacifhlcaghiaa.Own
open Go.Proofs.Ytfacifhlcaghiaa.RowK
set_option linter.unusedVariables false
/-- What a call that turns a disk leaves. -/
def DkPost (W : World) (B : Nat) (h : Hd) (S : List Sec) (L : List Wr) (val : Value) (e : Ending) (w' : World) : Prop :=
  e = .returned val ∧ ∃ vA vB, IsDk w' B ⟨h.g, vA, vB⟩ S L ∧ KeptD W w' h ∧ ∀ k, (⟨h.g, vA, vB⟩ : Hd).mine k → h.mine k ∨ W.heap.size ≤ k
theorem flatS_set (S : List Sec) (m : Nat) (s : Sec) : flatS (S.set m s) = (flatS S).set m (sv s) := by unfold flatS; rw [List.map_set]
theorem OkD.set {S : List Sec} {L : List Wr} (h : OkD S L) (m : Nat) {s : Sec} (hs : s.length = 64) : OkD (S.set m s) L :=
  ⟨by rw [List.length_set]; exact h.n, sz_set h.sz hs m, by rw [List.length_set]; exact h.inn⟩
/-- A sector of the row set. -/
theorem IsDk.atA {w : World} {B g g1 n cap : Nat} {vB : Value} {S : List Sec} {L : List Wr} (d : IsDk w B ⟨g, .slice (some ⟨g1, 0, none⟩) n cap, vB⟩ S L) {j : Nat} (hj : j < S.length) : w.cell? ⟨g1, j, none⟩ = some (sv (S.getD j [])) ∧ w.frozen? ⟨g1, j, none⟩ = false := by
  obtain ⟨g', cap', e, _, _, h⟩ := d.rowA
  injection e with e _ _
  injection e with e
  injection e with e _ _
  subst e
  exact h j hj
theorem IsDk.atB {w : World} {B g g2 n cap : Nat} {vA : Value} {S : List Sec} {L : List Wr} (d : IsDk w B ⟨g, vA, .slice (some ⟨g2, 0, none⟩) n cap⟩ S L) {j : Nat} (hj : j < L.length) : w.cell? ⟨g2, j * 2, none⟩ = some (.int .i64 L[j].a) ∧ w.cell? ⟨g2, j * 2 + 1, none⟩ = some (sv L[j].s) := by
  obtain ⟨g', cap', e, _, _, _, h⟩ := d.rowB (List.length_pos_iff.1 (by omega))
  injection e with e _ _
  injection e with e
  injection e with e _ _
  subst e
  exact h j hj
theorem IsDk.setS {w : World} {B g g1 n cap : Nat} {vB : Value} {S : List Sec} {L : List Wr} (d : IsDk w B ⟨g, .slice (some ⟨g1, 0, none⟩) n cap, vB⟩ S L) {m : Nat} (hn : S.length = n) (hm : m < n) {s : Sec} (hs : s.length = 64) :
    IsDk (w.setCell ⟨g1, m, none⟩ (sv s)) B ⟨g, .slice (some ⟨g1, 0, none⟩) n cap, vB⟩ (S.set m s) L ∧ KeptD w (w.setCell ⟨g1, m, none⟩ (sv s)) ⟨g, .slice (some ⟨g1, 0, none⟩) n cap, vB⟩ := by
  subst hn
  have hne : g ≠ g1 := fun e => d.nA (by rw [e]; rfl)
  have hnB : ∀ k, vB.ownBlock = some k → k ≠ g1 := fun k hk e => d.nAB g1 rfl (by rw [← e]; exact hk)
  have hl : (S.set m s).length = S.length := List.length_set
  refine ⟨⟨(Below.heap_setCell w ⟨g1, m, none⟩ (sv s) g hne).trans d.blk, ?_, own_moveD d.rl (fun k hk => Below.heap_setCell w ⟨g1, m, none⟩ (sv s) k (hnB k hk)), d.low, d.nA, d.nB, d.nAB, d.ok.set m hs, d.few, by rw [hl]; exact d.one⟩,
    ⟨rfl, rfl, rfl, by simp [World.setCell], fun k hk hn => Below.heap_setCell w ⟨g1, m, none⟩ (sv s) k (fun e => hn (.inr (.inl (by rw [e]; rfl))))⟩⟩
  rw [hl, flatS_set]
  exact own_setD d.rs m hm (sv s)
/-- No writing is left. -/
theorem IsDk.clear {w : World} {B g : Nat} {vA vB : Value} {S : List Sec} {L : List Wr} (d : IsDk w B ⟨g, vA, vB⟩ S L) :
    IsDk (w.setCell ⟨g, 1, none⟩ (.slice none 0 0)) B ⟨g, vA, .slice none 0 0⟩ S [] ∧ KeptD w (w.setCell ⟨g, 1, none⟩ (.slice none 0 0)) ⟨g, vA, vB⟩ := by
  refine ⟨⟨heap_setD d.blk _, own_moveD d.rs (fun k hk => Below.heap_setCell w ⟨g, 1, none⟩ _ k (by rintro rfl; exact d.nA hk)), ⟨rfl, .inl ⟨rfl, rfl⟩⟩, d.low, d.nA, by simp [Value.ownBlock], fun k hk => by simp [Value.ownBlock], ⟨d.ok.n, d.ok.sz, fun w hw => by cases hw⟩, by simp, d.one⟩,
    ⟨rfl, rfl, rfl, by simp [World.setCell], fun k hk hn => Below.heap_setCell w ⟨g, 1, none⟩ _ k (fun e => hn (.inl e))⟩⟩
theorem KeptD.b {W w w' : World} {h : Hd} (k : KeptD W w h) (hb : Below w.heap.size w w') : KeptD W w' h :=
  ⟨hb.os.trans k.os, hb.tape.trans k.tape, hb.output.trans k.output, Nat.le_trans k.size hb.size, fun q hq hn => (hb.block q (Nat.lt_of_lt_of_le hq k.size)).trans (k.block q hq hn)⟩
theorem KeptD.then {A B C : World} {h : Hd} (k1 : KeptD A B h) (k2 : KeptD B C h) : KeptD A C h := k1.trans k2 (fun _ _ e => e)
theorem KeptD.clear {A B C : World} {g : Nat} {vA vB vB' : Value} (k1 : KeptD A B ⟨g, vA, vB⟩) (k2 : KeptD B C ⟨g, vA, vB⟩) : KeptD A C ⟨g, vA, vB⟩ := k1.then k2
theorem KeptD.refl (W : World) (h : Hd) : KeptD W W h := KeptD.of_below h (Below.refl _ _)
theorem mine_clear {g : Nat} {vA vB : Value} (k : Nat) (h : (⟨g, vA, .slice none 0 0⟩ : Hd).mine k) : (⟨g, vA, vB⟩ : Hd).mine k := by
  rcases h with h | h | h
  · exact .inl h
  · exact .inr (.inl h)
  · cases h
theorem sync_nil (w : World) : Calls Try.prog 19 #[.pointer none] w fun e w' => e = .returned (.tuple #[]) ∧ w = w' := by
  go_enter Try.func19, Try.ntmps19
  go_wp2_with fail
  (first | refine bodyPost_end (results_none rfl _ _ _) rfl ?_ | refine bodyPost_ret (results_none rfl _ _ _) rfl ?_)
  exact ⟨rfl, rfl⟩
theorem wipe_nil (w : World) : Calls Try.prog 21 #[.pointer none] w fun e w' => e = .returned (.tuple #[]) ∧ w = w' := by
  go_enter Try.func21, Try.ntmps21
  go_wp2_with fail
  (first | refine bodyPost_end (results_none rfl _ _ _) rfl ?_ | refine bodyPost_ret (results_none rfl _ _ _) rfl ?_)
  exact ⟨rfl, rfl⟩
theorem crash_nil (w : World) (f : Int) : Calls Try.prog 20 #[.pointer none, .int .u64 f] w fun e w' => e = .returned (.tuple #[]) ∧ w = w' := by
  go_enter Try.func20, Try.ntmps20
  go_wp2_with fail
  (first | refine bodyPost_end (results_none rfl _ _ _) rfl ?_ | refine bodyPost_ret (results_none rfl _ _ _) rfl ?_)
  exact ⟨rfl, rfl⟩
theorem syncL_take {S : List Sec} {L : List Wr} {k : Nat} (h : k < L.length) : syncL S (L.take (k + 1)) = (syncL S (L.take k)).set L[k].a.toNat L[k].s := by
  rw [List.take_succ_eq_append_getElem h, syncL_snoc]
set_option maxHeartbeats 2000000 in
theorem sync_any (W : World) (B : Nat) (h : Hd) (S : List Sec) (L : List Wr) (d : IsDk W B h S L) : Calls Try.prog 19 #[ptr h] W (DkPost W B h (syncL S L) [] (.tuple #[])) := by
  unfold ptr
  obtain ⟨g, vA, vB⟩ := h
  obtain ⟨g1, cap, rfl, hg1, hne, _⟩ := d.rowA
  obtain ⟨A, cap2, rfl, hcap2⟩ := own_slice d.rl
  have c1 : W.cell? ⟨g, 1, none⟩ = some (.slice A L.length cap2) := d.cells.2.1
  have hlen := d.few
  have hsl : ∀ M : List Wr, (∀ w ∈ M, w ∈ L) → (syncL S M).length = S.length := fun M hM => (syncL_ok M d.ok.sz (fun w hw => (d.ok.inn w (hM w hw)).2.2)).1
  have hA : 0 < L.length → ∃ g2, A = some ⟨g2, 0, none⟩ ∧ g2 < W.heap.size := fun hL => by
    obtain ⟨g2, cap', e, _, h2, _⟩ := d.rowB (List.length_pos_iff.1 hL)
    injection e with e _ _
    exact ⟨g2, e, h2⟩
  have hinn := d.ok.inn
  have HD := Lib.hid d
  have HSL := Lib.hid hsl
  have HIN := Lib.hid hinn
  clear d hsl hinn
  go_enter Try.func19, Try.ntmps19
  go_wp2_with fail
  go_loopw [11] (fun iv w => ∃ k : Nat, iv = .int .i64 k ∧ k ≤ L.length ∧ Hid (IsDk w B ⟨g, .slice (some ⟨g1, 0, none⟩) S.length cap, .slice A L.length cap2⟩ (syncL S (L.take k)) L ∧ KeptD W w ⟨g, .slice (some ⟨g1, 0, none⟩) S.length cap, .slice A L.length cap2⟩)) (fun iv _ => L.length - (intOf iv).toNat)
  case atStart => exact ⟨0, rfl, by omega, Lib.hid ⟨HD.out, KeptD.refl _ _⟩⟩
  case round =>
    obtain ⟨k, rfl, hk, HI⟩ := hrel
    by_cases hlt : k < L.length
    · obtain ⟨g2, rfl, hg2⟩ := hA (by omega)
      have hsz := HI.out.2.size
      obtain ⟨r0, r1⟩ := HI.out.1.atB hlt
      have hin := HIN.out _ (List.getElem_mem hlt)
      have hst := syncL_take (S := S) hlt
      have hl := HSL.out (L.take k) (fun w hw => List.mem_of_mem_take hw)
      generalize L[k] = x at r0 r1 hin hst
      obtain ⟨a, s⟩ := x
      obtain ⟨h0, h1, h2⟩ := hin
      simp only at r0 r1 h0 h1 h2 hst
      obtain ⟨m, rfl⟩ : ∃ m : Nat, a = m := ⟨a.toNat, by omega⟩
      rw [Int.toNat_natCast] at hst
      unfold sv at r1
      have hm : m < S.length := by omega
      have HST := Lib.hid hst
      have HL := Lib.hid hl
      clear hst hl h0
      go_upto_region 4 with fail
      have hbA : Below wr.heap.size wr (wr.alloc (.cells #[.int .i64 m, .string ⟨s.toArray⟩] 84)) := (Below.refl _ _).alloc (Nat.le_refl _) _
      refine name_world (fun w => IsDk w B ⟨g, .slice (some ⟨g1, 0, none⟩) S.length cap, .slice (some ⟨g2, 0, none⟩) L.length cap2⟩ (syncL S (L.take k)) L ∧ KeptD W w ⟨g, .slice (some ⟨g1, 0, none⟩) S.length cap, .slice (some ⟨g2, 0, none⟩) L.length cap2⟩ ∧ Blk w wr.heap.size 84 #[.int .i64 m, .string ⟨s.toArray⟩]) ⟨HI.out.1.b hbA, HI.out.2.b hbA, Blk.fresh _ _ _⟩ ?_
      clear HI hbA r0 r1
      rintro w5 ⟨hd5, hk5, kb⟩
      have e0 : w5.cell? ⟨g, 0, none⟩ = some (.slice (some ⟨g1, 0, none⟩) S.length cap) := hd5.cells.1
      have e1 : w5.cell? ⟨wr.heap.size, 0, none⟩ = some (.int .i64 m) := kb.cell 0
      have e2 : w5.cell? ⟨wr.heap.size, 1, none⟩ = some (.string ⟨s.toArray⟩) := kb.cell 1
      obtain ⟨e4, e5⟩ := hd5.atA (j := m) (by rw [HL.out]; exact hm)
      have i0 : (0 : Int) ≤ (m : Int) := by omega
      have i1 : (m : Int) < (S.length : Int) := by omega
      have HD5 := Lib.hid hd5
      have HK5 := Lib.hid hk5
      clear hd5 hk5 kb
      go_region
      go_wp2_with fail
      go_roundw
      case rel =>
        have hf := HD5.out.setS HL.out hm h2
        refine ⟨k + 1, by go_num, by omega, Lib.hid ?_⟩
        rw [HST.out]
        exact ⟨hf.1.b (Below.refl _ _).drew, (HK5.out.then hf.2).b (Below.refl _ _).drew⟩
      case measure => simp [intOf]; omega
    · obtain rfl : k = L.length := by omega
      obtain ⟨hdk, hkp⟩ := HI.out
      rw [List.take_length] at hdk
      have e1 : wr.cell? ⟨g, 1, none⟩ = some (.slice A L.length cap2) := hdk.cells.2.1
      have e2 : wr.frozen? ⟨g, 1, none⟩ = false := hdk.cells.2.2.2
      have HDK := Lib.hid hdk
      have HKP := Lib.hid hkp
      clear hdk hkp HI
      go_wp2_with fail
      (first | refine bodyPost_end (results_none rfl _ _ _) rfl ?_ | refine bodyPost_ret (results_none rfl _ _ _) rfl ?_)
      exact ⟨rfl, _, _, HDK.out.clear.1, HKP.out.then HDK.out.clear.2, fun k hk => .inl (mine_clear k hk)⟩
/-- A wiped disk's sectors, so many. -/
def wipeN (S : List Sec) (k : Nat) : List Sec := List.replicate k blankL ++ S.drop k
theorem wipeN_succ {S : List Sec} {k : Nat} (h : k < S.length) : wipeN S (k + 1) = (wipeN S k).set k blankL := by
  unfold wipeN
  have h1 : (List.replicate k blankL).length = k := List.length_replicate
  rw [List.set_append, if_neg (by omega), h1, Nat.sub_self, List.drop_eq_getElem_cons h, List.set_cons_zero, List.replicate_succ', List.append_assoc]
  rfl
theorem wipeN_len {S : List Sec} {k : Nat} (h : k ≤ S.length) : (wipeN S k).length = S.length := by
  unfold wipeN
  rw [List.length_append, List.length_replicate, List.length_drop]
  omega
theorem blankL_len : blankL.length = 64 := List.length_replicate
theorem quiet_extract (l : Sec) (i j : Nat) : (⟨l.toArray⟩ : ByteArray).extract i j = ⟨((l.drop i).take (j - i)).toArray⟩ := by
  apply ByteArray.ext
  rw [ByteArray.data_extract]
  apply Array.toList_inj.1
  simp [List.extract]
theorem str_add (l m : Sec) : (⟨l.toArray⟩ : ByteArray) ++ ⟨m.toArray⟩ = ⟨(l ++ m).toArray⟩ := by rw [ByteArray.mk_append_mk]
set_option maxHeartbeats 2000000 in
theorem kept_any (f : Nat) (hf : f < 4) (a b : Sec) (ha : a.length = 64) (hb : b.length = 64) (w : World) : Calls Try.prog 47 #[.int .u64 f, .string ⟨a.toArray⟩, .string ⟨b.toArray⟩] w fun e w' => e = .returned (.string ⟨(keptL f a b).toArray⟩) ∧ ∃ n, w' = w.drewN n := by
  have x1 : (⟨a.toArray⟩ : ByteArray).extract 0 32 = ⟨(a.take 32).toArray⟩ := quiet_extract a 0 32
  have x2 : (⟨b.toArray⟩ : ByteArray).extract 0 32 = ⟨(b.take 32).toArray⟩ := quiet_extract b 0 32
  have y1 : (⟨a.toArray⟩ : ByteArray).extract 32 64 = ⟨(a.drop 32).toArray⟩ := by
    rw [quiet_extract, List.take_of_length_le (by rw [List.length_drop]; omega)]
  have y2 : (⟨b.toArray⟩ : ByteArray).extract 32 64 = ⟨(b.drop 32).toArray⟩ := by
    rw [quiet_extract, List.take_of_length_le (by rw [List.length_drop]; omega)]
  have z1 := str_add (a.take 32) (b.drop 32)
  have z2 := str_add (b.take 32) (a.drop 32)
  have q1 : ¬ 9223372036854775807 < (a.take 32).length + (b.drop 32).length := by rw [List.length_take, List.length_drop]; omega
  have q2 : ¬ 9223372036854775807 < (b.take 32).length + (a.drop 32).length := by rw [List.length_take, List.length_drop]; omega
  rcases (by omega : f = 0 ∨ f = 1 ∨ f = 2 ∨ f = 3) with rfl | rfl | rfl | rfl
  · go_enter Try.func47, Try.ntmps47
    go_wp2_with fail
    go_ret
    exact ⟨rfl, 0, rfl⟩
  · go_enter Try.func47, Try.ntmps47
    go_wp2_with fail
    go_ret
    exact ⟨rfl, 0, rfl⟩
  · go_enter Try.func47, Try.ntmps47
    go_wp2_with fail
    go_quiet (fail)
    go_wp2_with fail
    go_ret
    exact ⟨rfl, _, rfl⟩
  · go_enter Try.func47, Try.ntmps47
    go_wp2_with fail
    go_quiet (fail)
    go_wp2_with fail
    go_ret
    exact ⟨rfl, _, rfl⟩
end Go.Proofs.Ytfacifhlcaghiaa.Dsk
