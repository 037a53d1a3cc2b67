-- packed by pack.py, a program of this claim's repo
import Derived.Test.YtjohfkpgghnpeaaIwC
import Derived.Test.YtjohfkpgghnpeaaIwD
import Derived.Test.YtjohfkpgghnpeaaIwE
import Derived.Test.YtjohfkpgghnpeaaIwB
import Derived.Test.YtjohfkpgghnpeaaIwF
import Derived.Test.YtjohfkpgghnpeaaIwG
import Derived.Test.YtjohfkpgghnpeaaIwH
import Derived.Test.YtjohfkpgghnpeaaIwA
import Derived.Test.YtjohfkpgghnpeaaIwI
import Derived.Test.YtjohfkpgghnpeaaIwJ
import Derived.Test.YtjohfkpgghnpeaaIwK
import Derived.Test.YtjohfkpgghnpeaaIwL
import Derived.Test.YtjohfkpgghnpeaaIwM
import Derived.Test.YtjohfkpgghnpeaaIwN
import Derived.Test.YtjohfkpgghnpeaaIwO
import Derived.Test.YtjohfkpgghnpeaaIwP
import Derived.Test.YtjohfkpgghnpeaaIwQ
import Derived.Test.YtjohfkpgghnpeaaIwR
import Derived.Test.YtjohfkpgghnpeaaIwS
import Derived.Test.YtjohfkpgghnpeaaIwT
import Derived.Test.YtjohfkpgghnpeaaIwU
import Derived.Test.YtjohfkpgghnpeaaIwV
import Derived.Test.YtjohfkpgghnpeaaIwW
import Derived.Test.YtjohfkpgghnpeaaIwX
import Derived.BigQuiet
import Derived.Deep.DeepBigQuietO
section
namespace Go.Proofs.Ytjohfkpgghnpeaa.SetC
open Go Go.RowKit
open Go.Proofs.Ytjohfkpgghnpeaa.Gen
open Go.Proofs.Ytjohfkpgghnpeaa.Own
open Go.Proofs.Ytjohfkpgghnpeaa.RowK
open Go.Proofs.Ytjohfkpgghnpeaa.ItemC
open Go.Proofs.Ytjohfkpgghnpeaa.PRef
open Go.Proofs.Ytjohfkpgghnpeaa.ItmPr (ofL rget_eq rd_at ofL_ok)
open Go.Proofs.YtjohfkpgghnpeaaW.PrintWords (Kd)
set_option linter.unusedVariables false
theorem own_cells {w : World} {B K n cap : Nat} {T : TypeId} {A : Option Addr} {xs : List Value} (h : w.ownsRow B T K (.slice A n cap) n xs) : ∀ ad, A = some ad → ∀ j u, xs[j]? = some u → w.cell? (ad.add j) = some u := by
  rintro ad rfl j u hu
  rcases h.2 with ⟨h1, _⟩ | ⟨g, _, _, h1, _⟩
  · cases h1
  · injection h1 with h1 _ _
    injection h1 with h1
    subst h1
    exact h.cells (g := g) rfl j u hu
theorem own_some {w : World} {B K n cap : Nat} {T : TypeId} {A : Option Addr} {xs : List Value} (h : w.ownsRow B T K (.slice A n cap) n xs) (hn : 0 < n) : ∃ ad, A = some ad := by
  obtain ⟨g, _, _, hv, _⟩ := own_block h hn
  injection hv with hv
  exact ⟨_, hv⟩
theorem flatD_get {l : List D} {j : Nat} {x : D} (h : l[j]? = some x) (i : Nat) (u : Value) (hu : (dc x)[i]? = some u) : (flatD l)[j * 5 + i]? = some u := by
  obtain ⟨hj, rfl⟩ := List.getElem?_eq_some_iff.1 h
  have h1 : l = l.take j ++ l[j] :: l.drop (j + 1) := by rw [← List.drop_eq_getElem_cons hj, List.take_append_drop]
  have h2 : (l.take j).length = j := by rw [List.length_take]; omega
  have hi := (List.getElem?_eq_some_iff.1 hu).1
  generalize l[j] = y at h1 hu hi
  rw [h1, flatD_append, List.getElem?_append_right (by rw [flatD_len, h2]; omega), flatD_len, h2, Nat.add_sub_cancel_left]
  show (dc y ++ flatD _)[i]? = _
  rw [List.getElem?_append_left hi]
  exact hu
structure Gro {α : Type} (U : Nat → List α) (P : Nat → Bool) (M : Nat → α) : Prop where
  zero : U 0 = []
  succ : ∀ n, U (n + 1) = U n ++ (if P n = true then [M n] else [])
theorem Gro.pre {α : Type} {U : Nat → List α} {P : Nat → Bool} {M : Nat → α} (h : Gro U P M) : ∀ d n, U n <+: U (n + d)
  | 0, n => List.prefix_rfl
  | d + 1, n => (h.pre d n).trans (by rw [← Nat.add_assoc, h.succ]; exact List.prefix_append _ _)
theorem Gro.at {α : Type} {U : Nat → List α} {P : Nat → Bool} {M : Nat → α} (h : Gro U P M) {n : Nat} (hn : n < 64) (hp : P n = true) : (U 64)[(U n).length]? = some (M n) ∧ (U n).length < (U 64).length ∧ (U (n + 1)).length = (U n).length + 1 := by
  have h1 := h.succ n
  rw [if_pos hp] at h1
  obtain ⟨r, hr⟩ := h.pre (64 - (n + 1)) (n + 1)
  rw [show n + 1 + (64 - (n + 1)) = 64 by omega, h1] at hr
  have h3 : (U 64)[(U n).length]? = some (M n) := by
    rw [← hr, List.append_assoc, List.getElem?_append_right (Nat.le_refl _), Nat.sub_self]
    rfl
  exact ⟨h3, (List.getElem?_eq_some_iff.1 h3).1, by rw [h1]; simp⟩
theorem Gro.no {α : Type} {U : Nat → List α} {P : Nat → Bool} {M : Nat → α} (h : Gro U P M) {n : Nat} (hp : P n = false) : (U (n + 1)).length = (U n).length := by
  rw [h.succ n, hp]
  simp
theorem Gro.le {α : Type} {U : Nat → List α} {P : Nat → Bool} {M : Nat → α} (h : Gro U P M) : ∀ n, (U n).length ≤ n
  | 0 => by rw [h.zero]; exact Nat.le_refl _
  | n + 1 => by
    have := h.le n
    rw [h.succ n, List.length_append]
    split <;> simp <;> omega
theorem gro_Z {α : Type} (P : Int → Bool) (M : Int → α) : Gro (fun n => ((Z n).filter P).map M) (fun n => P n) (fun n => M n) := by
  refine ⟨rfl, fun n => ?_⟩
  show ((Z (n + 1)).filter P).map M = ((Z n).filter P).map M ++ _
  rw [Z_succ, List.filter_append, List.map_append]
  congr 1
  cases h : P n <;> simp [h]
set_option maxRecDepth 100000 in
set_option maxHeartbeats 16000000 in
theorem unlike_walk (A1 : Option Addr) (c1 : Nat) (l1 : List H) (A2 : Option Addr) (c2 : Nat) (l2 : List H) (W : World) (hr1 : Kd.C k30 W A1 l1.length l1) (hc1 : l1.length ≤ c1) (hr2 : Kd.C k30 W A2 l2.length l2) (hc2 : l2.length ≤ c2)
    (hs1 : ∀ x ∈ l1, x.f1.f1.size ≤ 9223372036854775807) (hs2 : ∀ x ∈ l2, x.f1.f1.size ≤ 9223372036854775807) (hv1 : ∀ x ∈ l1, 0 ≤ x.f1.f0 ∧ x.f1.f0 < 18446744073709551616) (hv2 : ∀ x ∈ l2, 0 ≤ x.f1.f0 ∧ x.f1.f0 < 18446744073709551616) :
    Calls Try.prog 9 #[.slice A1 l1.length c1, .slice A2 l2.length c2] W fun e w' => e = .returned (.bool true) ∧ Below W.heap.size W w' := by
  have hn1 := few_calls W A1 c1 l1 hr1 hc1 hs1 hv1
  have hn2 := fun w (hb : Below W.heap.size W w) => few_calls w A2 c2 l2 (Kd.C_below hr2 hb) hc2 hs2 hv2
  have hx1 : ∀ z ∈ fewL l1, z.f1.f1.size ≤ 140737488355328 := ofL_sz _ (few_sz hv1)
  have hx2 : ∀ z ∈ fewL l2, z.f1.f1.size ≤ 140737488355328 := ofL_sz _ (few_sz hv2)
  have hy1 : (fewL l1).length ≤ 64 := ofL_le _
  have hy2 : (fewL l2).length ≤ 64 := ofL_le _
  have ho1 : ofL [] (fewL l1) = fewL l1 := ofL_self _
  have ho2 : ofL [] (fewL l2) = fewL l2 := ofL_self _
  have hk1 : Ok (fewL l1) := ofL_ok _ [] ⟨List.Pairwise.nil, by simp⟩
  have hk2 : Ok (fewL l2) := ofL_ok _ [] ⟨List.Pairwise.nil, by simp⟩
  generalize fewL l1 = x at hn1 hx1 hy1 ho1 hk1
  generalize fewL l2 = y at hn2 hx2 hy2 ho2 hk2
  have hun := fun w A c A' c' (h1 : Rd w A c x) (h2 : Rd w A' c' y) => unlike_calls w A c x A' c' y (by omega) hx1 hx2 h1 h2
  have hod := fun w A c A' c' (h1 : Rd w A c x) (h2 : Rd w A' c' y) => odd_calls w A c x A' c' y (by omega) (by omega) hx1 hx2 h1 h2
  rw [unlike_eq, ho1, ho2] at hun
  rw [odd_eq, ho1, ho2] at hod
  have hgU := gro_Z (Pn x y) (Mn x y)
  have hgV := gro_Z (On x y) (fun n => n)
  rw [show (Z 64).filter (On x y) = ((Z 64).filter (On x y)).map (fun n => n) by simp] at hod
  obtain ⟨U, hU⟩ : ∃ U : Nat → List D, U = fun n => ((Z n).filter (Pn x y)).map (Mn x y) := ⟨_, rfl⟩
  obtain ⟨V, hV⟩ : ∃ V : Nat → List Int, V = fun n => ((Z n).filter (On x y)).map (fun n => n) := ⟨_, rfl⟩
  rw [← hU] at hgU
  rw [← hV] at hgV
  rw [show ((Z 64).filter (Pn x y)).map (Mn x y) = U 64 by rw [hU]] at hun
  rw [show ((Z 64).filter (On x y)).map (fun n => n) = V 64 by rw [hV]] at hod
  unfold UPost at hun
  unfold IPost at hod
  unfold RowPost at hn1 hn2
  clear hU hV
  have HN1 := Lib.hid hn1
  have HN2 := Lib.hid hn2
  have HUN := Lib.hid hun
  have HOD := Lib.hid hod
  have HGU := Lib.hid hgU
  have HGV := Lib.hid hgV
  have HK1 := Lib.hid hk1
  have HK2 := Lib.hid hk2
  have hU64 : (U 64).length ≤ 64 := hgU.le 64
  have hV64 : (V 64).length ≤ 64 := hgV.le 64
  clear hn1 hn2 hun hod hx1 hx2 hs1 hs2 hv1 hv2 hr1 hr2 ho1 ho2 hgU hgV hk1 hk2
  go_enter Try.func9, Try.ntmps9
  go_wp2_with fail
  refine HN1.out.mono ?_; rintro e w1 ⟨X, cx, rfl, ho1, hcx, hb1⟩
  have HO1 := Lib.hid ho1
  clear ho1
  go_wp2_with fail
  refine (HN2.out w1 hb1).mono ?_; rintro e w2 ⟨Y, cy, rfl, ho2, hcy, b2⟩
  have HO1b := Lib.hid (own_below HO1.out b2)
  have HO2 := Lib.hid ho2
  have hb2 := hb1.trans (b2.mono hb1.size)
  have HU1 := Lib.hid (HUN.out w2 X cx Y cy (own_rd HO1b.out).1 (own_rd ho2).1)
  clear ho2 b2 hb1
  go_wp2_with fail
  refine HU1.out.mono ?_; rintro e w3 ⟨L, cl, rfl, hol, hcl, b3⟩
  have HO1c := Lib.hid (own_below HO1b.out b3)
  have HO2c := Lib.hid (own_below HO2.out b3)
  have HOL := Lib.hid hol
  have hb3 := hb2.trans (b3.mono hb2.size)
  have HV1 := Lib.hid (HOD.out w3 X cx Y cy (own_rd HO1c.out).1 (own_rd HO2c.out).1)
  clear hol b3 hb2 HU1 HUN HO1 HO1b HO2
  go_wp2_with fail
  refine HV1.out.mono ?_; rintro e w4 ⟨O, co, rfl, hoo, hco, b4⟩
  have HX := Lib.hid (own_below HO1c.out b4)
  have HY := Lib.hid (own_below HO2c.out b4)
  have HL := Lib.hid (own_below HOL.out b4)
  have HO := Lib.hid hoo
  have hb4 := hb3.trans (b4.mono hb3.size)
  clear hoo b4 hb3 HV1 HOD HO1c HO2c HOL HN1 HN2
  go_wp2_with fail
  go_loopw [9, 10, 11] (fun kv jv nv wr => ∃ n : Nat, nv = .int .i64 n ∧ n ≤ 64 ∧ kv = .int .i64 (U n).length ∧ jv = .int .i64 (V n).length ∧ Below w4.heap.size w4 wr) (fun kv jv nv _ => 64 - (intOf nv).toNat)
  case atStart => exact ⟨0, rfl, by omega, by rw [HGU.out.zero]; rfl, by rw [HGV.out.zero]; rfl, Below.refl _ _⟩
  case round =>
    obtain ⟨n, rfl, hn, rfl, rfl, hb⟩ := hrel
    have hUn := HGU.out.le n
    have hVn := HGV.out.le n
    by_cases hlt : n < 64
    · have hg1 := fun w (hb : Below w4.heap.size w4 w) => tarnref09_Get.calls 100 X cx x n (getL x n).1.f0 (getL x n).1.f1 (getL x n).2 w (C_own (own_below HX.out hb) (by omega)) hcx (rget_eq x n HK1.out.1 (by omega) 100 (by omega))
      have hg2 := fun w (hb : Below w4.heap.size w4 w) => tarnref09_Get.calls 100 Y cy y n (getL y n).1.f0 (getL y n).1.f1 (getL y n).2 w (C_own (own_below HY.out hb) (by omega)) hcy (rget_eq y n HK2.out.1 (by omega) 100 (by omega))
      have hP : Pn x y n = (((getL x n).2 != (getL y n).2) || !(sameB (getL x n).1 (getL y n).1)) := rfl
      have hM : Mn x y n = ⟨n, (getL x n).1, (getL y n).1⟩ := rfl
      have hQ : On x y n = ((getL x n).2 && (getL y n).2 && ((getL x n).1.f0 == (getL y n).1.f0) && !((getL x n).1.f1.toList == (getL y n).1.f1.toList)) := rfl
      generalize getL x n = p at hg1 hP hM hQ
      generalize getL y n = q at hg2 hP hM hQ
      obtain ⟨⟨y0, y1⟩, is⟩ := p
      obtain ⟨⟨z0, z1⟩, has⟩ := q
      simp only at hP hM hQ hg1 hg2
      have HG1 := Lib.hid (hg1 wr hb)
      have HG2 := Lib.hid hg2
      have HP := Lib.hid hP
      have HM := Lib.hid hM
      have HQ := Lib.hid hQ
      clear hg1 hg2 hP hM hQ
      go_wp2_with fail
      refine HG1.out.mono ?_; rintro e w5 ⟨rfl, b5⟩
      have hb5 := hb.trans (b5.mono hb.size)
      have bI : Below w5.heap.size w5 (w5.alloc (.cells #[.int .u64 y0, .string y1] 28)) := (Below.refl _ _).alloc (Nat.le_refl _) _
      have hb5' := hb5.trans (bI.mono hb5.size)
      have kI : Blk (w5.alloc (.cells #[.int .u64 y0, .string y1] 28)) w5.heap.size 28 #[.int .u64 y0, .string y1] := Blk.fresh _ _ _
      have HG2' := Lib.hid (HG2.out _ hb5')
      clear hb b5 HG1 HG2 bI hb5
      go_wp2_with fail
      refine HG2'.out.mono ?_; rintro e w6 ⟨rfl, b6⟩
      have hb6 := hb5'.trans (b6.mono hb5'.size)
      have bJ : Below w6.heap.size w6 (w6.alloc (.cells #[.int .u64 z0, .string z1] 28)) := (Below.refl _ _).alloc (Nat.le_refl _) _
      have hb6' := hb6.trans (bJ.mono hb6.size)
      have kI6 := (kI.b b6).b bJ
      clear hb5' b6 kI HG2' bJ hb6
      go_upto_region 9 with fail
      refine name_world (fun w => Below w4.heap.size w4 w ∧ Blk w w5.heap.size 28 #[.int .u64 y0, .string y1] ∧ Blk w w6.heap.size 28 #[.int .u64 z0, .string z1]) ⟨hb6', kI6, Blk.fresh _ _ _⟩ ?_
      clear hb6' kI6
      rintro w7 ⟨hb7, kI, kJ⟩
      have e1 : w7.cell? ⟨w5.heap.size, 0, none⟩ = some (.int .u64 y0) := kI.cell 0
      have e2 : w7.cell? ⟨w5.heap.size, 1, none⟩ = some (.string y1) := kI.cell 1
      have e3 : w7.cell? ⟨w6.heap.size, 0, none⟩ = some (.int .u64 z0) := kJ.cell 0
      have e4 : w7.cell? ⟨w6.heap.size, 1, none⟩ = some (.string z1) := kJ.cell 1
      have hneq := item_neq y0 z0 y1 z1
      go_cut [49] (fun s wx => s = .bool (Pn x y n) ∧ wx = w7)
      case first =>
        obtain ⟨sb, hsb⟩ : ∃ sb, sameB ⟨y0, y1⟩ ⟨z0, z1⟩ = sb := ⟨_, rfl⟩
        rw [hsb] at hneq
        cases is <;> cases has <;> (go_wp2_with fail; go_meet; exact ⟨by rw [HP.out, hsb]; simp, rfl⟩)
      case rest =>
        obtain ⟨rfl, hw⟩ := hcut
        rw [hw]
        clear hneq hw wc
        go_upto_if 49 with fail
        go_cut [9] (fun s9 wx => s9 = .int .i64 (U (n + 1)).length ∧ ∃ d, wx = w7.drewN d)
        case first =>
          cases hc : Pn x y n with
          | false =>
            have HN := Lib.hid (HGU.out.no hc)
            go_wp2_with fail
            go_meet
            exact ⟨by rw [HN.out], 0, rfl⟩
          | true =>
            obtain ⟨ha, hlt2, hl3⟩ := HGU.out.at hlt hc
            obtain ⟨ad, rfl⟩ := own_some HL.out (by omega)
            have hcell := fun i u (hu : (dc (Mn x y n))[i]? = some u) => cellB hb7 (own_cells HL.out ad rfl _ u (flatD_get ha i u hu))
            rw [HM.out] at hcell
            have d0 := hcell 0 _ rfl
            have d1 := hcell 1 _ rfl
            have d2 := hcell 2 _ rfl
            have d3 := hcell 3 _ rfl
            have d4 := hcell 4 _ rfl
            rw [Nat.add_zero] at d0
            rw [← Go.Deep.add_add] at d1 d2 d3 d4
            have HL3 := Lib.hid hl3
            have hds := diff_same n y0 z0 y1 z1
            clear hcell ha hl3
            have hge : decide ((U 64).length ≤ (U n).length) = false := decide_eq_false (by omega)
            have hge2 : decide (((U 64).length : Int) ≤ ((U n).length : Int)) = false := decide_eq_false (by omega)
            go_wp2_with fail
            go_region_held3 (fun w' => w'.cell? (ad.add ((U n).length * 5)) = some (.int .i64 n) ∧ w'.cell? ⟨(ad.add ((U n).length * 5)).block, (ad.add ((U n).length * 5)).off + 1, none⟩ = some (.int .u64 y0) ∧ w'.cell? ⟨(ad.add ((U n).length * 5)).block, (ad.add ((U n).length * 5)).off + 2, none⟩ = some (.string y1) ∧ w'.cell? ⟨(ad.add ((U n).length * 5)).block, (ad.add ((U n).length * 5)).off + 3, none⟩ = some (.int .u64 z0) ∧ w'.cell? ⟨(ad.add ((U n).length * 5)).block, (ad.add ((U n).length * 5)).off + 4, none⟩ = some (.string z1) ∧ w'.cell? ⟨w5.heap.size, 0, none⟩ = some (.int .u64 y0) ∧ w'.cell? ⟨w5.heap.size, 1, none⟩ = some (.string y1) ∧ w'.cell? ⟨w6.heap.size, 0, none⟩ = some (.int .u64 z0) ∧ w'.cell? ⟨w6.heap.size, 1, none⟩ = some (.string z1) ∧ ∃ d, w' = w7.drewN d) (first | exact ⟨d0, d1, d2, d3, d4, e1, e2, e3, e4, 1, rfl⟩) (fail)
            go_wp2_with fail
            go_meet
            exact ⟨by rw [HL3.out]; go_num, _, rfl⟩
        case rest =>
          obtain ⟨rfl, d, hw⟩ := hcut
          rw [hw]
          have f1 : (w7.drewN d).cell? ⟨w5.heap.size, 0, none⟩ = some (.int .u64 y0) := e1
          have f2 : (w7.drewN d).cell? ⟨w5.heap.size, 1, none⟩ = some (.string y1) := e2
          have f3 : (w7.drewN d).cell? ⟨w6.heap.size, 0, none⟩ = some (.int .u64 z0) := e3
          have f4 : (w7.drewN d).cell? ⟨w6.heap.size, 1, none⟩ = some (.string z1) := e4
          have hb8 : Below w4.heap.size w4 (w7.drewN d) := bN hb7 d
          clear hw wc e1 e2 e3 e4 kI kJ hb7
          generalize w7.drewN d = w8 at f1 f2 f3 f4 hb8 ⊢
          go_upto_region 13 with fail
          go_cut [84] (fun s wx => s = .bool (On x y n) ∧ wx = w8)
          case first =>
            obtain ⟨s1, hs1⟩ : ∃ s, (y0 == z0) = s := ⟨_, rfl⟩
            obtain ⟨s2, hs2⟩ : ∃ s, (y1.toList == z1.toList) = s := ⟨_, rfl⟩
            cases is <;> cases has <;> cases s1 <;> cases s2 <;> (go_wp2_with fail; go_meet; exact ⟨by rw [HQ.out, hs1, hs2]; rfl, rfl⟩)
          case rest =>
            obtain ⟨rfl, hw⟩ := hcut
            rw [hw]
            clear hw wc f1 f2 f3 f4
            cases hc : On x y n with
            | false =>
              have HN := Lib.hid (HGV.out.no hc)
              go_wp2_with fail
              go_roundw
              case rel => exact ⟨n + 1, by go_num, by omega, rfl, by rw [HN.out], hb8⟩
              case measure => simp [intOf]; omega
            | true =>
              obtain ⟨ha, hlt2, hl3⟩ := HGV.out.at hlt hc
              obtain ⟨ad, rfl⟩ := own_some HO.out (by omega)
              have d0 := cellB hb8 (own_cells HO.out ad rfl (V n).length (.int .i64 n) (by unfold flatI; rw [List.getElem?_map, ha]; rfl))
              have HL3 := Lib.hid hl3
              clear ha hl3
              go_wp2_with fail
              go_roundw
              case rel => exact ⟨n + 1, by go_num, by omega, rfl, by rw [HL3.out]; go_num, hb8⟩
              case measure => simp [intOf]; omega
    · obtain rfl : n = 64 := by omega
      generalize (U 64).length = KK at *
      generalize (V 64).length = JJ at *
      have hkk : ((KK : Int) == (KK : Int)) = true := by simp
      have hjj : ((JJ : Int) == (JJ : Int)) = true := by simp
      go_wp2_with fail
      refine (scawake_calls _).mono ?_; rintro e w5 ⟨rfl, b5⟩
      go_wp2_with fail
      go_ret
      exact ⟨rfl, hb4.trans ((hb.trans (b5.mono hb.size)).mono hb4.size)⟩
end Go.Proofs.Ytjohfkpgghnpeaa.SetC
namespace Go.Proofs.Ytjohfkpgghnpeaa.scrubUnlike
open Go Go.RowKit
open Go.Proofs.Ytjohfkpgghnpeaa.Open
open Go.Proofs.Ytjohfkpgghnpeaa.ItmPr
set_option linter.unusedVariables false
set_option maxRecDepth 20000 in
theorem walk {H : Type} {enc : TypeId × Value → H} {W : World} {b : Nat} {v0 : Value} (ok0 : Value.okWide Try.prog W .any b 22 v0) {d0 : DataW H} {p0 : List MemPlace} (h0 : DataW.Trod enc Try.prog W 0 (fun _ => true) true 22 v0 d0 p0)
    {v1 : Value} (ok1 : Value.okWide Try.prog W .any b 22 v1) {d1 : DataW H} {p1 : List MemPlace} (h1 : DataW.Trod enc Try.prog W 0 (fun _ => true) true 22 v1 d1 p1) :
    Calls Try.prog 9 #[v0, v1] W fun e w' => e = .returned (.bool true) ∧ Below W.heap.size W w' := by
  obtain ⟨x, rfl, hok⟩ := open_sl shH Try.underlying22 (by kernel_rfl) ok0 h0
  obtain ⟨y, rfl, hok1⟩ := open_sl shH Try.underlying22 (by kernel_rfl) ok1 h1
  have h := SetC.unlike_walk x.A x.cap (x.l.map ofSh) y.A y.cap (y.l.map ofSh) W (C_held x hok) (by rw [List.length_map]; exact hok.1) (C_held y hok1) (by rw [List.length_map]; exact hok1.1) (held_size x hok) (held_size y hok1) (held_ver x hok) (held_ver y hok1)
  rw [List.length_map, List.length_map] at h
  exact h
end Go.Proofs.Ytjohfkpgghnpeaa.scrubUnlike
end
