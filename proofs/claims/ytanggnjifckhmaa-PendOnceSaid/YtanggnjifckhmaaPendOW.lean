/- The walk of the law PendOnce. -/
import Derived.Test.YtanggnjifckhmaaPendW
import Derived.Test.YtanggnjifckhmaaAppS
import Derived.Deep.DrawnRows
namespace Go.Proofs.Ytanggnjifckhmaa.Pend
open Go Go.RowKit
open Go.Proofs.Ytanggnjifckhmaa.Gen
open Go.Proofs.Ytanggnjifckhmaa.Own
set_option linter.unusedVariables false
attribute [local go_sem ↓] Go.wp_at_zero Go.wp_at_succ
theorem off_twice (f : Nat → Bool) (n : Int) (j : Nat) : off (off f n) n j = off f n j := by unfold off; cases f j <;> simp
theorem lf_cnt (f : Nat → Bool) (j : Nat) : (lf f (j + 1)).length = (lf f j).length + (if f j = true then 1 else 0) := by
  simp only [lf]
  split <;> simp
theorem lf5 (f : Nat → Bool) : (lf f 5).length = (if f 0 = true then 1 else 0) + (if f 1 = true then 1 else 0) + (if f 2 = true then 1 else 0) + (if f 3 = true then 1 else 0) + (if f 4 = true then 1 else 0) := by
  rw [lf_cnt, lf_cnt, lf_cnt, lf_cnt, lf_cnt]
  simp [lf]
theorem lf_off (f : Nat → Bool) (k : Nat) (hk : k < 5) (h : f k = true) : (lf f 5).length = (lf (off f (k : Int)) 5).length + 1 := by
  rw [lf5, lf5]
  match k, hk with
  | 0, _ => simp [off, h]; omega
  | 1, _ => simp [off, h]; omega
  | 2, _ => simp [off, h]; omega
  | 3, _ => simp [off, h]; omega
  | 4, _ => simp [off, h]
theorem m3 (a : Int) : Go.bits .and .i64 a 7 = a % 8 := and_mask_i64 a 3 (by decide)
/-- The first twenty, and one. -/
def Tw (l : List Int) (m : Nat) (k : Int) : List Int := l.take m ++ [k]
theorem has_last (l : List Int) (k : Nat) : has (l ++ [(k : Int)]) k = true := by rw [has_snoc]; simp
theorem keepS {gp gq gr : Nat} {f g h : Nat → Bool} {W w w1 : World} (hb_ : Below w.heap.size w w1) (h_ : (fun w' => w'.cell? ⟨gp, 0, none⟩ = some (.bool (f 0)) ∧ w'.cell? ⟨gp, 1, none⟩ = some (.bool (f 1)) ∧ w'.cell? ⟨gp, 2, none⟩ = some (.bool (f 2)) ∧ w'.cell? ⟨gp, 3, none⟩ = some (.bool (f 3)) ∧ w'.cell? ⟨gp, 4, none⟩ = some (.bool (f 4)) ∧ w'.cell? ⟨gq, 0, none⟩ = some (.bool (g 0)) ∧ w'.cell? ⟨gq, 1, none⟩ = some (.bool (g 1)) ∧ w'.cell? ⟨gq, 2, none⟩ = some (.bool (g 2)) ∧ w'.cell? ⟨gq, 3, none⟩ = some (.bool (g 3)) ∧ w'.cell? ⟨gq, 4, none⟩ = some (.bool (g 4)) ∧ w'.cell? ⟨gr, 0, none⟩ = some (.bool (h 0)) ∧ w'.cell? ⟨gr, 1, none⟩ = some (.bool (h 1)) ∧ w'.cell? ⟨gr, 2, none⟩ = some (.bool (h 2)) ∧ w'.cell? ⟨gr, 3, none⟩ = some (.bool (h 3)) ∧ w'.cell? ⟨gr, 4, none⟩ = some (.bool (h 4)) ∧ Below W.heap.size W w') w) : (fun w' => w'.cell? ⟨gp, 0, none⟩ = some (.bool (f 0)) ∧ w'.cell? ⟨gp, 1, none⟩ = some (.bool (f 1)) ∧ w'.cell? ⟨gp, 2, none⟩ = some (.bool (f 2)) ∧ w'.cell? ⟨gp, 3, none⟩ = some (.bool (f 3)) ∧ w'.cell? ⟨gp, 4, none⟩ = some (.bool (f 4)) ∧ w'.cell? ⟨gq, 0, none⟩ = some (.bool (g 0)) ∧ w'.cell? ⟨gq, 1, none⟩ = some (.bool (g 1)) ∧ w'.cell? ⟨gq, 2, none⟩ = some (.bool (g 2)) ∧ w'.cell? ⟨gq, 3, none⟩ = some (.bool (g 3)) ∧ w'.cell? ⟨gq, 4, none⟩ = some (.bool (g 4)) ∧ w'.cell? ⟨gr, 0, none⟩ = some (.bool (h 0)) ∧ w'.cell? ⟨gr, 1, none⟩ = some (.bool (h 1)) ∧ w'.cell? ⟨gr, 2, none⟩ = some (.bool (h 2)) ∧ w'.cell? ⟨gr, 3, none⟩ = some (.bool (h 3)) ∧ w'.cell? ⟨gr, 4, none⟩ = some (.bool (h 4)) ∧ Below W.heap.size W w') w1 :=
  ⟨cellB hb_ h_.1, cellB hb_ h_.2.1, cellB hb_ h_.2.2.1, cellB hb_ h_.2.2.2.1, cellB hb_ h_.2.2.2.2.1, cellB hb_ h_.2.2.2.2.2.1, cellB hb_ h_.2.2.2.2.2.2.1, cellB hb_ h_.2.2.2.2.2.2.2.1, cellB hb_ h_.2.2.2.2.2.2.2.2.1, cellB hb_ h_.2.2.2.2.2.2.2.2.2.1, cellB hb_ h_.2.2.2.2.2.2.2.2.2.2.1, cellB hb_ h_.2.2.2.2.2.2.2.2.2.2.2.1, cellB hb_ h_.2.2.2.2.2.2.2.2.2.2.2.2.1, cellB hb_ h_.2.2.2.2.2.2.2.2.2.2.2.2.2.1, cellB hb_ h_.2.2.2.2.2.2.2.2.2.2.2.2.2.2.1, h_.2.2.2.2.2.2.2.2.2.2.2.2.2.2.2.trans (hb_.mono h_.2.2.2.2.2.2.2.2.2.2.2.2.2.2.2.size)⟩
theorem lastS {gp gq gr : Nat} {f g h : Nat → Bool} {W w : World} (h_ : (fun w' => w'.cell? ⟨gp, 0, none⟩ = some (.bool (f 0)) ∧ w'.cell? ⟨gp, 1, none⟩ = some (.bool (f 1)) ∧ w'.cell? ⟨gp, 2, none⟩ = some (.bool (f 2)) ∧ w'.cell? ⟨gp, 3, none⟩ = some (.bool (f 3)) ∧ w'.cell? ⟨gp, 4, none⟩ = some (.bool (f 4)) ∧ w'.cell? ⟨gq, 0, none⟩ = some (.bool (g 0)) ∧ w'.cell? ⟨gq, 1, none⟩ = some (.bool (g 1)) ∧ w'.cell? ⟨gq, 2, none⟩ = some (.bool (g 2)) ∧ w'.cell? ⟨gq, 3, none⟩ = some (.bool (g 3)) ∧ w'.cell? ⟨gq, 4, none⟩ = some (.bool (g 4)) ∧ w'.cell? ⟨gr, 0, none⟩ = some (.bool (h 0)) ∧ w'.cell? ⟨gr, 1, none⟩ = some (.bool (h 1)) ∧ w'.cell? ⟨gr, 2, none⟩ = some (.bool (h 2)) ∧ w'.cell? ⟨gr, 3, none⟩ = some (.bool (h 3)) ∧ w'.cell? ⟨gr, 4, none⟩ = some (.bool (h 4)) ∧ Below W.heap.size W w') w) : Below W.heap.size W w := h_.2.2.2.2.2.2.2.2.2.2.2.2.2.2.2
set_option maxRecDepth 100000 in
set_option maxHeartbeats 4000000 in
theorem once_walk (A : Option Addr) (cap : Nat) (l : List Int) (n : Int) (W : World) (hl : l.length ≤ 9223372036854775807) (hcl : l.length ≤ cap) (hcm : cap ≤ 9223372036854775807)
    (hnil : A = none → l = [] ∧ cap = 0) (hc : ∀ i, i < l.length → ∃ ad, A = some ad ∧ W.cell? (ad.add i) = some (.int .i64 (l[i]?.getD 0))) :
    Calls Try.prog 4 #[.slice A l.length cap, .int .i64 n] W fun e w' => e = .returned (.bool true) ∧ Below W.heap.size W w' := by
  obtain ⟨q, e7, q0, q7⟩ : ∃ q, Go.bits .and .i64 n 7 = q ∧ 0 ≤ q ∧ q < 8 := ⟨_, rfl, by rw [m3]; omega, by rw [m3]; omega⟩
  obtain ⟨k, e5, k5⟩ : ∃ k : Nat, q % 5 = (k : Int) ∧ k < 5 := ⟨(q % 5).toNat, by omega, by omega⟩
  obtain ⟨m, hm1, hm2, hm3⟩ : ∃ m : Nat, (min (l.length : Int) 20).toNat = m ∧ m ≤ l.length ∧ m ≤ 20 := ⟨_, rfl, by omega, by omega⟩
  have hlm : (l.take m).length = m := by rw [List.length_take]; omega
  have HLM := Lib.hid hlm
  clear hlm
  go_enter Try.func4, Try.ntmps4
  have hsrc : ∀ ad, A = some ad → ∀ j u, ((l.take m).map (Value.int .i64))[j]? = some u → (W.alloc (.cells #[] 3)).cell? (ad.add j) = some u := by
    rintro ad rfl j u hj
    have hj1 : j < m := by
      rcases Nat.lt_or_ge j m with h | h
      · exact h
      · rw [List.getElem?_eq_none (by rw [List.length_map, HLM.out]; exact h)] at hj
        cases hj
    obtain ⟨ad', ha, hcell⟩ := hc j (by omega)
    injection ha with ha
    subst ha
    rw [World.cell?_alloc_lt _ _ _ (World.block_lt_of_cell? _ _ hcell), hcell]
    rw [List.getElem?_map, List.getElem?_take, if_pos hj1] at hj
    rw [List.getElem?_eq_getElem (by omega)] at hj ⊢
    exact hj
  have HSRC := Lib.hid hsrc
  have HNIL := Lib.hid hnil
  clear hsrc hnil hc
  go_wp2_with (first
    | (at_builtin
       refine wpList_appS _ rfl (.tmp 14) (.tmp 19) _ rfl W.heap.size 3 (.int .i64 0) 1 8 Try.underlying22 iinfo rfl (by decide) _ 0 [] rfl
                 (own_empty (Nat.le_refl _) (heap_alloc_new _ _)) A m cap ((l.take m).map (.int .i64)) (by rw [List.length_map, HLM.out, Nat.mul_one]) rfl (fun h => by
                   obtain ⟨h1, h2⟩ := HNIL.out h
                   subst h1
                   exact ⟨by simpa using hm2, h2⟩) HSRC.out (by intro u hu; obtain ⟨x, _, rfl⟩ := List.mem_map.1 hu; rfl) (by omega) (by omega) (by simp) ?_
       intro A1 cap1 w1 hown1 hc1 hb1 hs1
       simp only [Nat.zero_add, List.nil_append] at hown1 hc1)
    | (at_builtin
       refine wpList_app1 _ rfl (.tmp 20) (.tmp 22) _ rfl W.heap.size 3 (.int .i64 0) 8 Try.underlying22 iinfo rfl _ _ _ rfl (hown1.alloc _) ⟨w1.heap.size, 0, none⟩ (.int .i64 (k : Int)) rfl (by simp) rfl (by omega) (by omega) (by simp at hs1 ⊢; omega) ?_
       intro A2 cap2 w2 hown2 hc2 hg2 hb2 hob2))
  have hown3 : w2.ownsRow W.heap.size 3 1 (.slice A2 (m + 1) cap2) (m + 1) ((Tw l m k).map (.int .i64)) := by
    unfold Tw
    rw [List.map_append]
    exact hown2
  obtain ⟨hlen, hcells⟩ := own_ints hown3
  have hbW : Below W.heap.size W w2 := (((Below.refl _ _).alloc (Nat.le_refl _) _).trans hb1).trans ((((Below.refl _ _).alloc (by simp at hs1; omega) _)).trans hb2)
  have hlk : (Tw l m k).length = m + 1 := by rw [← hlen]
  have HLK := Lib.hid hlk
  clear hlk hlen hown3 hown2 hown1 hb1 hb2 hg2 hob2 hc1 hc2
  have hof := of_any A2 cap2 (Tw l m k) w2 (by rw [HLK.out]; omega) hcells
  rw [HLK.out] at hof
  have HOF := hof
  have hfk : has (Tw l m k) k = true := has_last _ _
  generalize has (Tw l m k) = f at HOF hfk
  clear hof
  refine HOF.mono ?_; rintro e w3 ⟨rfl, b3⟩
  have hb3 : Below W.heap.size W w3 := hbW.trans (b3.mono hbW.size)
  clear hbW b3 HOF
  go_wp2_with fail
  refine (got_any f k _).mono ?_; rintro e w4 ⟨rfl, b4⟩
  have j1 : Is5 w4 w3.heap.size 25 f := Is5.below (heap_alloc_new _ _) b4
  have hb4 : Below W.heap.size W w4 := (hb3.alloc hb3.size _).trans (b4.mono (by have := hb3.size; simp; omega))
  have hi1 : isIn f k = true := by unfold isIn; rw [decide_eq_true (by omega), Int.toNat_natCast, hfk]; rfl
  have hlen := lf_off f k k5 hfk
  have HLEN := Lib.hid hlen
  have hz4 : w3.heap.size + 1 ≤ w4.heap.size := by have := b4.size; simpa using this
  clear b4 hlen
  obtain ⟨g, hg⟩ : ∃ g, off f k = g := ⟨_, rfl⟩
  have hgk : g k = false := by rw [← hg]; unfold off; simp
  have hi2 : isIn g k = false := by unfold isIn; rw [decide_eq_true (by omega), Int.toNat_natCast, hgk]; rfl
  have heq : eqB (off g k) g = true := by
    have e : ∀ j, off g k j = g j := fun j => by rw [← hg]; exact off_twice f k j
    unfold eqB
    simp [e]
  rw [hg] at HLEN ⊢
  go_wp2_with fail
  refine (got_any g k _).mono ?_; rintro e w5 ⟨rfl, b5⟩
  have j2 : Is5 w5 w4.heap.size 25 g := Is5.below (heap_alloc_new _ _) b5
  have j3 : Is5 w5 w3.heap.size 25 f := Is5.below ((Below.heap_alloc _ _ _ j1.lt).trans j1) b5
  have hb5 : Below W.heap.size W w5 := (hb4.alloc hb4.size _).trans (b5.mono (by have := hb4.size; simp; omega))
  clear j1 b5 hb4 hb3
  obtain ⟨h, hh⟩ : ∃ h, off g k = h := ⟨_, rfl⟩
  rw [hh] at heq ⊢
  have he : ∀ w, (binOp .eql 25 (.agg #[.bool (h 0), .bool (h 1), .bool (h 2), .bool (h 3), .bool (h 4)]) (.agg #[.bool (g 0), .bool (g 1), .bool (g 2), .bool (g 3), .bool (g 4)])).run Try.prog w = .ok (.bool true) w := fun w => by rw [eq_pend, heq]
  have hll := lf_len g 5
  obtain ⟨a, ha⟩ : ∃ a, a = (lf g 5).length := ⟨_, rfl⟩
  rw [← ha] at hll
  have HA := Lib.hid ha
  have HA1 : Hid (a + 1 = (lf f 5).length) := by rw [ha]; exact HLEN.out.symm
  clear ha hg hh heq HLEN hgk hfk
  go_upto_region 5 with fail
  refine name_world (fun w => Is5 w w3.heap.size 25 f ∧ Is5 w w4.heap.size 25 g ∧ Is5 w w5.heap.size 25 h ∧ Below W.heap.size W w) ⟨(Below.heap_alloc _ _ _ j3.lt).trans j3, (Below.heap_alloc _ _ _ j2.lt).trans j2, heap_alloc_new _ _, hb5.alloc hb5.size _⟩ ?_
  clear j2 j3 hb5
  rintro w6 ⟨j1, j2, j3, hb6⟩
  generalize w3.heap.size = gp at j1 ⊢
  generalize w4.heap.size = gq at j2 ⊢
  generalize w5.heap.size = gr at j3 ⊢
  have cp0 := j1.cell 0 (by omega)
  have cp1 := j1.cell 1 (by omega)
  have cp2 := j1.cell 2 (by omega)
  have cp3 := j1.cell 3 (by omega)
  have cp4 := j1.cell 4 (by omega)
  have cq0 := j2.cell 0 (by omega)
  have cq1 := j2.cell 1 (by omega)
  have cq2 := j2.cell 2 (by omega)
  have cq3 := j2.cell 3 (by omega)
  have cq4 := j2.cell 4 (by omega)
  have cr0 := j3.cell 0 (by omega)
  have cr1 := j3.cell 1 (by omega)
  have cr2 := j3.cell 2 (by omega)
  have cr3 := j3.cell 3 (by omega)
  have cr4 := j3.cell 4 (by omega)
  have h0 := (show (fun w' => w'.cell? ⟨gp, 0, none⟩ = some (.bool (f 0)) ∧ w'.cell? ⟨gp, 1, none⟩ = some (.bool (f 1)) ∧ w'.cell? ⟨gp, 2, none⟩ = some (.bool (f 2)) ∧ w'.cell? ⟨gp, 3, none⟩ = some (.bool (f 3)) ∧ w'.cell? ⟨gp, 4, none⟩ = some (.bool (f 4)) ∧ w'.cell? ⟨gq, 0, none⟩ = some (.bool (g 0)) ∧ w'.cell? ⟨gq, 1, none⟩ = some (.bool (g 1)) ∧ w'.cell? ⟨gq, 2, none⟩ = some (.bool (g 2)) ∧ w'.cell? ⟨gq, 3, none⟩ = some (.bool (g 3)) ∧ w'.cell? ⟨gq, 4, none⟩ = some (.bool (g 4)) ∧ w'.cell? ⟨gr, 0, none⟩ = some (.bool (h 0)) ∧ w'.cell? ⟨gr, 1, none⟩ = some (.bool (h 1)) ∧ w'.cell? ⟨gr, 2, none⟩ = some (.bool (h 2)) ∧ w'.cell? ⟨gr, 3, none⟩ = some (.bool (h 3)) ∧ w'.cell? ⟨gr, 4, none⟩ = some (.bool (h 4)) ∧ Below W.heap.size W w') w6.drew from ⟨cp0, cp1, cp2, cp3, cp4, cq0, cq1, cq2, cq3, cq4, cr0, cr1, cr2, cr3, cr4, hb6.drew⟩)
  clear j1 j2 j3
  go_region_held3 (fun w' => w'.cell? ⟨gp, 0, none⟩ = some (.bool (f 0)) ∧ w'.cell? ⟨gp, 1, none⟩ = some (.bool (f 1)) ∧ w'.cell? ⟨gp, 2, none⟩ = some (.bool (f 2)) ∧ w'.cell? ⟨gp, 3, none⟩ = some (.bool (f 3)) ∧ w'.cell? ⟨gp, 4, none⟩ = some (.bool (f 4)) ∧ w'.cell? ⟨gq, 0, none⟩ = some (.bool (g 0)) ∧ w'.cell? ⟨gq, 1, none⟩ = some (.bool (g 1)) ∧ w'.cell? ⟨gq, 2, none⟩ = some (.bool (g 2)) ∧ w'.cell? ⟨gq, 3, none⟩ = some (.bool (g 3)) ∧ w'.cell? ⟨gq, 4, none⟩ = some (.bool (g 4)) ∧ w'.cell? ⟨gr, 0, none⟩ = some (.bool (h 0)) ∧ w'.cell? ⟨gr, 1, none⟩ = some (.bool (h 1)) ∧ w'.cell? ⟨gr, 2, none⟩ = some (.bool (h 2)) ∧ w'.cell? ⟨gr, 3, none⟩ = some (.bool (h 3)) ∧ w'.cell? ⟨gr, 4, none⟩ = some (.bool (h 4)) ∧ Below W.heap.size W w') (first | exact h0 | exact keepS (by assumption) (by assumption) | exact keepS (by assumption) h0)
    (first | (go_at_call 13; refine (awake_any _).mono ?_; rintro e w7 ⟨rfl, hb_⟩) | (go_at_call_of 11 (Value.agg #[.bool (f 0), .bool (f 1), .bool (f 2), .bool (f 3), .bool (f 4)]); refine (left_is f _ (a + 1) rfl HA1.out _).mono ?_; rintro e w8 ⟨A8, cap8, rfl, _, hb_⟩) | (go_at_call_of 11 (Value.agg #[.bool (g 0), .bool (g 1), .bool (g 2), .bool (g 3), .bool (g 4)]); refine (left_is g _ a rfl HA.out _).mono ?_; rintro e w9 ⟨A9, cap9, rfl, _, hb_⟩))
  all_goals
    go_wp2_with fail
    go_ret
    refine ⟨?_, lastS (gp := gp) (gq := gq) (gr := gr) (f := f) (g := g) (h := h) (by assumption)⟩
    first | rfl | (simp; rw [wi64 (by omega) (by omega)])
end Go.Proofs.Ytanggnjifckhmaa.Pend
namespace Go.Proofs.Ytanggnjifckhmaa.pendPlays
open Go Go.RowKit Go.Proofs.Ytanggnjifckhmaa.Open Go.Proofs.Ytanggnjifckhmaa.Pend
theorem walk {H : Type} {enc : TypeId × Value → H} {W : World} {b : Nat} {v0 : Value} (ok0 : Value.okWide Try.prog W .any b 22 v0) {d0 : DataW H} {p0 : List MemPlace} (h0 : DataW.Trod enc Try.prog W 0 (fun _ => true) true 22 v0 d0 p0)
    {v1 : Value} (ok1 : Value.okWide Try.prog W .any b 22 v1) {d1 : DataW H} {p1 : List MemPlace} (h1 : DataW.Trod enc Try.prog W 0 (fun _ => true) true 22 v1 d1 p1) :
    Calls Try.prog 3 #[v0, v1] W fun e w' => e = .returned (.bool true) ∧ Below W.heap.size W w' := by
  obtain ⟨x, rfl, hok⟩ := open_sl (.int .i64) Try.underlying22 (by kernel_rfl) ok0 h0
  obtain ⟨y, rfl, hok1⟩ := open_sl (.int .i64) Try.underlying22 (by kernel_rfl) ok1 h1
  exact plays_walk x.A x.cap x.l y.A y.cap y.l W (ints_cells hok).1 hok.1 (by have := hok.2.1; unfold maxLen at this; omega) (ints_cells hok).2 (ints_cells hok1).1 (ints_cells hok1).2
end Go.Proofs.Ytanggnjifckhmaa.pendPlays
namespace Go.Proofs.Ytanggnjifckhmaa.pendOnce
open Go Go.RowKit Go.Proofs.Ytanggnjifckhmaa.Open Go.Proofs.Ytanggnjifckhmaa.Pend
theorem walk {H : Type} {enc : TypeId × Value → H} {W : World} {b : Nat} {v0 : Value} (ok0 : Value.okWide Try.prog W .any b 22 v0) {d0 : DataW H} {p0 : List MemPlace} (h0 : DataW.Trod enc Try.prog W 0 (fun _ => true) true 22 v0 d0 p0) (a1 : Int) (_w : (Lit.int .i64 a1).wf = true) :
    Calls Try.prog 4 #[v0, .int .i64 a1] W fun e w' => e = .returned (.bool true) ∧ Below W.heap.size W w' := by
  obtain ⟨x, rfl, hok⟩ := open_sl (.int .i64) Try.underlying22 (by kernel_rfl) ok0 h0
  exact once_walk x.A x.cap x.l a1 W (ints_cells hok).1 hok.1 (by have := hok.2.1; unfold maxLen at this; omega) hok.2.2.1 (ints_cells hok).2
end Go.Proofs.Ytanggnjifckhmaa.pendOnce
