-- packed by pack.py, a program of this claim's repo
import Derived.Test.YtjohfkpgghnpeaaIxC
import Derived.Test.YtjohfkpgghnpeaaIxD
import Derived.Test.YtjohfkpgghnpeaaIxE
import Derived.Test.YtjohfkpgghnpeaaIxB
import Derived.Test.YtjohfkpgghnpeaaIxF
import Derived.Test.YtjohfkpgghnpeaaIxG
import Derived.Test.YtjohfkpgghnpeaaIxH
import Derived.Test.YtjohfkpgghnpeaaIxA
import Derived.Test.YtjohfkpgghnpeaaIxI
import Derived.Test.YtjohfkpgghnpeaaIxJ
import Derived.Test.YtjohfkpgghnpeaaIxK
import Derived.Test.YtjohfkpgghnpeaaIxL
import Derived.Test.YtjohfkpgghnpeaaIxM
import Derived.Test.YtjohfkpgghnpeaaIxN
import Derived.Test.YtjohfkpgghnpeaaIxO
import Derived.Test.YtjohfkpgghnpeaaIxP
import Derived.Test.YtjohfkpgghnpeaaIxQ
import Derived.Test.YtjohfkpgghnpeaaIxR
import Derived.Test.YtjohfkpgghnpeaaIxS
import Derived.Test.YtjohfkpgghnpeaaIxT
import Derived.Test.YtjohfkpgghnpeaaIxU
import Derived.Test.YtjohfkpgghnpeaaIxV
import Derived.Test.YtjohfkpgghnpeaaIxW
import Derived.Deep.LoopGhost
section
namespace Go.Proofs.Ytjohfkpgghnpeaa.SetC
open Go Go.RowKit
open Go.Proofs.Ytjohfkpgghnpeaa.Gen
open Go.Proofs.Ytjohfkpgghnpeaa.Own
open Go.Proofs.Ytjohfkpgghnpeaa.RowK
open Go.Proofs.Ytjohfkpgghnpeaa.ItemC
open Go.Proofs.Ytjohfkpgghnpeaa.PRef
open Go.Proofs.Ytjohfkpgghnpeaa.ItmPr (ofL of_eq near_eq nearL near_length near_dom ofL_ok ofL_mem)
open Go.Proofs.YtjohfkpgghnpeaaW.PrintWords (Kd)
set_option linter.unusedVariables false
theorem keepE : ∀ (l : List H) (a : List E) (e : E), a <+: l.foldl stepE (a ++ [e])
  | [], a, e => List.prefix_append _ _
  | h :: l, a, e => by
    show a <+: l.foldl stepE (stepE (a ++ [e]) h)
    rw [stepE_snoc]
    split
    · exact keepE l a _
    · exact (List.prefix_append _ _).trans (keepE l (a ++ [e]) _)
theorem preE (m : List H) (j : Nat) (hj : j ≤ m.length) (hh : ∀ h : j < m.length, hitE (ofE (m.take j)) m[j].f0 = false) : ofE (m.take j) <+: ofE m := by
  rcases Nat.lt_or_ge j m.length with h | h
  · have h1 : m = m.take j ++ m[j] :: m.drop (j + 1) := by rw [← List.drop_eq_getElem_cons h, List.take_append_drop]
    have h2 : ofE m = (m.drop (j + 1)).foldl stepE (stepE (ofE (m.take j)) m[j]) := by
      conv => lhs; rw [h1]
      unfold ofE
      rw [List.foldl_append, List.foldl_cons]
    rw [h2, stepE_no (hh h)]
    exact keepE _ _ _
  · rw [List.take_of_length_le h]
    exact List.prefix_rfl
theorem blkL_step (out : List E) (h : H) : blkL (stepE out h) = blkL out + 1 := by
  rcases nil_or_snoc out with rfl | ⟨a, e, rfl⟩
  · rfl
  · rw [stepE_snoc]
    split
    · rw [blkL_snoc, blkL_snoc]
      show blkL a + (e.f1 + 1) = _
      omega
    · rw [blkL_snoc]
theorem blkL_of (m : List H) : ∀ k, k ≤ m.length → blkL (ofE (m.take k)) = k
  | 0, _ => rfl
  | k + 1, hk => by
    have hlt : k < m.length := by omega
    rw [List.take_succ_eq_append_getElem hlt, ofE_snoc, blkL_step, blkL_of m k (by omega)]
    omega
theorem inv_next {m : List H} {i j : Nat} (hi : i < m.length) (hj : j < m.length) {x0 x1 lo hi2 : Int} (hst : ofE (m.take (i + 1)) = ofE (m.take i) ++ [⟨x0, 1, x1, x1⟩]) (hx0 : m[i].f0 = x0) (hx1 : m[i].f1.f0 = x1)
    (h : (j = i ∧ lo = x1 ∧ hi2 = x1) ∨ (i < j ∧ ofE (m.take j) = ofE (m.take i) ++ [⟨x0, (j : Int) - i, lo, hi2⟩])) (he : m[j].f0 = x0 + j - i) :
    i < j + 1 ∧ ofE (m.take (j + 1)) = ofE (m.take i) ++ [⟨x0, ((j + 1 : Nat) : Int) - i, min lo m[j].f1.f0, max hi2 m[j].f1.f0⟩] := by
  rcases h with ⟨rfl, rfl, rfl⟩ | ⟨h1, h2⟩
  · refine ⟨by omega, ?_⟩
    rw [hst, hx1, show ((j + 1 : Nat) : Int) - j = 1 by omega, Int.min_self, Int.max_self]
  · refine ⟨by omega, ?_⟩
    rw [List.take_succ_eq_append_getElem hj, ofE_snoc, h2, stepE_snoc, if_pos (by show x0 + ((j : Int) - i) = m[j].f0; omega)]
    show _ ++ [(⟨x0, (j : Int) - i + 1, _, _⟩ : E)] = _
    rw [show (j : Int) - i + 1 = ((j + 1 : Nat) : Int) - i by omega]
theorem inv_exit {m : List H} {i j : Nat} (hi : i < m.length) (hj : j < m.length) (hij : i ≤ j) {x0 x1 lo hi2 : Int} (hx0 : m[i].f0 = x0)
    (h : (j = i ∧ lo = x1 ∧ hi2 = x1) ∨ (i < j ∧ ofE (m.take j) = ofE (m.take i) ++ [⟨x0, (j : Int) - i, lo, hi2⟩])) (he : ¬ m[j].f0 = x0 + j - i) :
    i < j ∧ ofE (m.take j) = ofE (m.take i) ++ [⟨x0, (j : Int) - i, lo, hi2⟩] ∧ ∀ h : j < m.length, hitE (ofE (m.take j)) m[j].f0 = false := by
  rcases h with ⟨rfl, rfl, rfl⟩ | ⟨h1, h2⟩
  · exact absurd hx0 (by omega)
  · refine ⟨h1, h2, fun _ => ?_⟩
    rw [h2, hitE_snoc]
    simp only [beq_eq_false_iff_ne, ne_eq]
    omega
theorem ext_same (a b c d : Int) (w : World) : (binOp .neq 32 (.agg #[.int .i64 a, .int .i64 b, .int .u64 c, .int .u64 d]) (.agg #[.int .i64 a, .int .i64 b, .int .u64 c, .int .u64 d])).run Try.prog w = .ok (.bool false) w := by
  have h := run_equalIn_struct (P := Try.prog) w 9999 32 #[.int .i64 a, .int .i64 b, .int .u64 c, .int .u64 d] #[.int .i64 a, .int .i64 b, .int .u64 c, .int .u64 d] (by kernel_rfl) (by kernel_rfl)
  simp only [binOp, Op.equal, Op.maxDepth]
  simp only [Program.fieldsOf, Try.underlying32, Op.eqFields] at h
  have p0 : ∀ w, (part 3 #[.int .i64 a, .int .i64 b, .int .u64 c, .int .u64 d] 0).run Try.prog w = .ok (.int .i64 a) w := fun w => by kernel_rfl
  have p1 : ∀ w, (part 3 #[.int .i64 a, .int .i64 b, .int .u64 c, .int .u64 d] 1).run Try.prog w = .ok (.int .i64 b) w := fun w => by kernel_rfl
  have p2 : ∀ w, (part 26 #[.int .i64 a, .int .i64 b, .int .u64 c, .int .u64 d] 2).run Try.prog w = .ok (.int .u64 c) w := fun w => by kernel_rfl
  have p3 : ∀ w, (part 26 #[.int .i64 a, .int .i64 b, .int .u64 c, .int .u64 d] 3).run Try.prog w = .ok (.int .u64 d) w := fun w => by kernel_rfl
  have q0 : ∀ n w, (Op.equalIn 9999 3 (.int .i64 n) (.int .i64 n)).run Try.prog w = .ok true w := fun n w => by rw [run_equalIn_int w 9998 3 .i64 .i64 n n Try.underlying3]; simp
  have q1 : ∀ n w, (Op.equalIn 9999 26 (.int .u64 n) (.int .u64 n)).run Try.prog w = .ok true w := fun n w => by rw [run_equalIn_int w 9998 26 .u64 .u64 n n Try.underlying26]; simp
  simp [p0, p1, p2, p3, q0, q1] at h
  simp [h]
set_option maxRecDepth 100000 in
set_option maxHeartbeats 16000000 in
theorem ext_walk (A1 : Option Addr) (c1 : Nat) (l1 : List H) (W : World) (hr1 : Kd.C k30 W A1 l1.length l1) (hc1 : l1.length ≤ c1)
    (hs1 : ∀ x ∈ l1, x.f1.f1.size ≤ 9223372036854775807) (hv1 : ∀ x ∈ l1, 0 ≤ x.f1.f0 ∧ x.f1.f0 < 18446744073709551616) :
    Calls Try.prog 3 #[.slice A1 l1.length c1] W fun e w' => e = .returned (.bool true) ∧ Below W.heap.size W w' := by
  have hn1 := tarnlaw09_Near.calls 100 A1 c1 l1 (nearL l1) W hr1 hc1 (near_eq l1 hs1 100 (by omega))
  have hx1 : ∀ z ∈ nearL l1, z.f1.f1.size ≤ 140737488355328 := fun z hz => (near_dom hv1 z hz).sz
  have hy1 := near_length l1
  generalize nearL l1 = x at hn1 hx1 hy1
  have hro := of_eq x (by omega) hx1 1000 (by omega)
  have hle := ofL_le x
  have hms := ofL_sz x hx1
  have hself := ofL_self x
  have hok := (ofL_ok x [] ⟨List.Pairwise.nil, by simp⟩).2
  generalize ofL [] x = m at hro hle hms hself hok
  have hex := fun w A c (h : Rd w A c m) => ext_calls w A c m (by omega) hms h
  rw [hself] at hex
  unfold EPost at hex
  have hgl : (ofE m).length ≤ m.length := by have := ofE_len m m.length (Nat.le_refl _); rwa [List.take_length] at this
  have hgo : ∀ e ∈ ofE m, 1 ≤ e.f1 ∧ e.f1 ≤ 64 := by
    have h := ofE_ok m hok m.length (Nat.le_refl _)
    rw [List.take_length] at h
    intro e he
    have := h e he
    unfold okE at this
    omega
  have hbl := blkL_of m m.length (Nat.le_refl _)
  rw [List.take_length] at hbl
  have HN := Lib.hid hn1
  have HRO := Lib.hid hro
  have HEX := Lib.hid hex
  have HGO := Lib.hid hgo
  have HBL := Lib.hid hbl
  have HOK := Lib.hid hok
  clear hn1 hro hms hself hex hgo hbl hx1 hs1 hv1 hr1 hok
  go_enter Try.func3, Try.ntmps3
  go_wp2_with fail
  refine HN.out.mono ?_; rintro e w1 ⟨v1, rfl, hR1, b1⟩
  obtain ⟨ho1, _⟩ := R_flat hR1
  obtain ⟨X, cx, rfl, hcx⟩ := own_slice ho1
  have HOF := Lib.hid (tarnref09_Of.calls 1000 X cx x m w1 (C_rd (own_rd ho1).1 (by omega)) hcx HRO.out)
  have hb1 : Below W.heap.size W w1 := b1
  clear hR1 ho1 b1
  go_wp2_with fail
  refine HOF.out.mono ?_; rintro e w2 ⟨v2, rfl, hR2, b2⟩
  obtain ⟨ho2, _⟩ := R_flat hR2
  obtain ⟨Y, cy, rfl, hcy⟩ := own_slice ho2
  have HRD := Lib.hid (own_rd ho2).1
  have hb2 := hb1.trans (b2.mono hb1.size)
  have HE := Lib.hid (HEX.out w2 Y cy (own_rd ho2).1)
  clear hR2 ho2 b2 hb1 HOF HEX HN
  go_wp2_with fail
  refine HE.out.mono ?_; rintro e w3 ⟨G, cg, rfl, hog, hcg, b3⟩
  have HRM := Lib.hid (HRD.out.b b3)
  have HRG := Lib.hid (own_rdE hog)
  have HSG := Lib.hid (fun h => own_someE hog h)
  have hb3 := hb2.trans (b3.mono hb2.size)
  clear hog b3 hb2 HE HRD
  go_wp2_with fail
  go_loopg [5, 6] m.length (fun gg kv iv wr => ∃ (i : Nat) (nd : Nat), iv = .int .i64 i ∧ i ≤ m.length ∧ kv = .int .i64 (ofE (m.take i)).length ∧ gg = m.length - i ∧ Hid (wr = w3.drewN nd) ∧ Hid (∀ h : i < m.length, hitE (ofE (m.take i)) m[i].f0 = false))
  case atStart => exact ⟨0, 0, rfl, by omega, rfl, rfl, Lib.hid rfl, Lib.hid (fun h => rfl)⟩
  case round =>
    obtain ⟨i, nd, rfl, hi, rfl, rfl, HWR, HNH⟩ := hrel
    by_cases hlt : i < m.length
    · have hxi := HOK.out _ (List.getElem_mem hlt)
      have hst := stepE_no (HNH.out hlt)
      rw [← ofE_snoc, ← List.take_succ_eq_append_getElem hlt] at hst
      have hki := ofE_len m i hi
      obtain ⟨ad, rfl, a0, a1, _⟩ := HRM.out.at_ hlt
      have c0 : wr.cell? (ad.add (i * 3)) = some (.int .i64 m[i].f0) := by rw [HWR.out]; exact a0
      have c1 : wr.cell? ⟨(ad.add (i * 3)).block, (ad.add (i * 3)).off + 1, none⟩ = some (.int .u64 m[i].f1.f0) := by rw [HWR.out]; exact a1
      have HST := Lib.hid hst
      have HA0 := Lib.hid a0
      clear a0 a1 hst
      obtain ⟨x1, hx1⟩ : ∃ q, m[i].f1.f0 = q := ⟨_, rfl⟩
      obtain ⟨x0, hx0⟩ : ∃ q, m[i].f0 = q := ⟨_, rfl⟩
      rw [hx1] at c1 HST
      rw [hx0] at c0 hxi HST HA0
      have HX0 := Lib.hid hx0
      have HX1 := Lib.hid hx1
      clear hx0 hx1
      go_upto_region 5 with fail
      go_quiet (fail)
      go_upto_block 2 with fail
      go_cut [7, 8, 9] (fun s7 s8 s9 wx => ∃ (j : Nat) (lo hi : Int) (nd : Nat), s7 = .int .i64 j ∧ s8 = .int .u64 lo ∧ s9 = .int .u64 hi ∧ Hid (wx = w3.drewN nd) ∧ i < j ∧ j ≤ m.length ∧ Hid (ofE (m.take j) = ofE (m.take i) ++ [⟨x0, (j : Int) - i, lo, hi⟩]) ∧ Hid (∀ h : j < m.length, hitE (ofE (m.take j)) m[j].f0 = false))
      case first =>
        go_wp2_with fail
        go_loopg [7, 8, 9] (m.length - i) (fun gg s7 s8 s9 wx => ∃ (j : Nat) (lo hi : Int) (nd : Nat), s7 = .int .i64 j ∧ s8 = .int .u64 lo ∧ s9 = .int .u64 hi ∧ i ≤ j ∧ j ≤ m.length ∧ gg = m.length - j ∧ Hid (wx = w3.drewN nd) ∧ Hid ((j = i ∧ lo = x1 ∧ hi = x1) ∨ (i < j ∧ ofE (m.take j) = ofE (m.take i) ++ [⟨x0, (j : Int) - i, lo, hi⟩])))
        case atStart => exact ⟨i, x1, x1, _, rfl, rfl, rfl, Nat.le_refl _, hi, rfl, Lib.hid (by rw [HWR.out, World.drewN_drewN]), Lib.hid (.inl ⟨rfl, rfl, rfl⟩)⟩
        case round =>
          clear c0 c1
          obtain ⟨j, lo, hi2, nd2, rfl, rfl, rfl, hij, hjm, rfl, HW2, HINV⟩ := hrel
          by_cases hjl : j < m.length
          · obtain ⟨ad', had', b0, b1, _⟩ := HRM.out.at_ hjl
            injection had' with had'
            subst had'
            have e0 : wr.cell? (ad.add (j * 3)) = some (.int .i64 m[j].f0) := by rw [HW2.out]; exact b0
            have e1 : wr.cell? ⟨(ad.add (j * 3)).block, (ad.add (j * 3)).off + 1, none⟩ = some (.int .u64 m[j].f1.f0) := by rw [HW2.out]; exact b1
            have f0 : wr.cell? (ad.add (i * 3)) = some (.int .i64 x0) := by rw [HW2.out]; exact HA0.out
            have HNX := Lib.hid (fun (h : m[j].f0 = x0 + j - i) => inv_next hlt hjl HST.out HX0.out HX1.out HINV.out h)
            have HEX := Lib.hid (fun (h : ¬ m[j].f0 = x0 + j - i) => inv_exit hlt hjl hij HX0.out HINV.out h)
            clear b0 b1
            have hdl : decide (j < m.length) = true := decide_eq_true hjl
            have hw1 : IntKind.i64.wrap (x0 + (j : Int)) = x0 + (j : Int) := IntWalk.i64_in _ (by omega)
            have hw2 : IntKind.i64.wrap (x0 + (j : Int) - (i : Int)) = x0 + (j : Int) - (i : Int) := IntWalk.i64_in _ (by omega)
            by_cases heq : m[j].f0 = x0 + j - i
            · have hb : (m[j].f0 == x0 + (j : Int) - (i : Int)) = true := by simp [heq]
              have HNX2 := Lib.hid (HNX.out heq)
              clear heq HNX HEX
              generalize m[j].f0 = y0 at e0 hb
              generalize m[j].f1.f0 = y1 at e1 HNX2
              go_wp2_with fail
              go_quiet (fail)
              go_upto_region 7 with fail
              refine name_world (fun w => w.cell? ⟨(ad.add (j * 3)).block, (ad.add (j * 3)).off + 1, none⟩ = some (.int .u64 y1) ∧ Hid (∃ q, w = wr.drewN q)) ⟨e1, Lib.hid ⟨_, rfl⟩⟩ ?_
              clear e0 e1 f0 hb hw1 hw2 hdl
              rintro w6 ⟨e1, HQ⟩
              go_region
              go_wp2_with fail
              go_roundg (m.length - (j + 1))
              case measure => omega
              case rel =>
                obtain ⟨q, hq⟩ := HQ.out
                exact ⟨j + 1, min lo y1, max hi2 y1, _, by go_num, rfl, rfl, by omega, by omega, rfl, Lib.hid (by show w6.drewN 1 = _; rw [hq, HW2.out, World.drewN_drewN, World.drewN_drewN]), Lib.hid (.inr HNX2.out)⟩
            · have hb : (m[j].f0 == x0 + (j : Int) - (i : Int)) = false := by simp [heq]
              obtain ⟨hx1, hx2, hx3⟩ := HEX.out heq
              have HX2 := Lib.hid hx2
              have HX3 := Lib.hid hx3
              clear heq HNX HEX hx2 hx3
              generalize m[j].f0 = y0 at e0 hb
              go_wp2_with fail
              go_quiet (fail)
              go_wp2_with fail
              go_meet
              exact ⟨j, lo, hi2, _, rfl, rfl, rfl, Lib.hid (by rw [HW2.out, World.drewN_drewN]), hx1, hjm, HX2, HX3⟩
          · have hdl : decide (j < m.length) = false := decide_eq_false hjl
            have hij2 : i < j := by omega
            have hv : ofE (m.take j) = ofE (m.take i) ++ [⟨x0, (j : Int) - i, lo, hi2⟩] := by
              rcases HINV.out with ⟨h, _⟩ | ⟨_, h⟩
              · omega
              · exact h
            have HV := Lib.hid hv
            clear hv
            go_wp2_with fail
            go_quiet (fail)
            go_wp2_with fail
            go_meet
            exact ⟨j, lo, hi2, _, rfl, rfl, rfl, Lib.hid (by rw [HW2.out, World.drewN_drewN]), hij2, hjm, HV, Lib.hid (fun h => absurd h hjl)⟩
      case rest =>
        clear c0 c1
        obtain ⟨j, lo, hi2, nd2, rfl, rfl, rfl, HW2, hij, hjm, HV, HNX⟩ := hcut
        obtain ⟨r, hr⟩ := preE m j hjm HNX.out
        have hlj : (ofE (m.take j)).length = (ofE (m.take i)).length + 1 := by rw [HV.out]; simp
        rw [HV.out] at hr
        have hget : (ofE m)[(ofE (m.take i)).length]? = some ⟨x0, (j : Int) - i, lo, hi2⟩ := by
          rw [← hr, List.append_assoc, List.getElem?_append_right (Nat.le_refl _), Nat.sub_self]
          rfl
        obtain ⟨hkl, hge⟩ := List.getElem?_eq_some_iff.1 hget
        obtain ⟨adg, rfl⟩ := HSG.out (by omega)
        obtain ⟨g0, g1, g2, g3⟩ := HRG.out.at_ hkl
        rw [hge] at g0 g1 g2 g3
        have d0 : wc.cell? (adg.add ((ofE (m.take i)).length * 4)) = some (.int .i64 x0) := by rw [HW2.out]; exact g0
        have d1 : wc.cell? ⟨(adg.add ((ofE (m.take i)).length * 4)).block, (adg.add ((ofE (m.take i)).length * 4)).off + 1, none⟩ = some (.int .i64 ((j : Int) - i)) := by rw [HW2.out]; exact g1
        have d2 : wc.cell? ⟨(adg.add ((ofE (m.take i)).length * 4)).block, (adg.add ((ofE (m.take i)).length * 4)).off + 2, none⟩ = some (.int .u64 lo) := by rw [HW2.out]; exact g2
        have d3 : wc.cell? ⟨(adg.add ((ofE (m.take i)).length * 4)).block, (adg.add ((ofE (m.take i)).length * 4)).off + 3, none⟩ = some (.int .u64 hi2) := by rw [HW2.out]; exact g3
        have d4 : wc.cell? (ad.add (i * 3)) = some (.int .i64 x0) := by rw [HW2.out]; exact HA0.out
        have HLJ := Lib.hid hlj
        clear hget hge hr g0 g1 g2 g3 hlj
        have hq1 : decide ((ofE m).length ≤ (ofE (m.take i)).length) = false := decide_eq_false (by omega)
        have hw2 : IntKind.i64.wrap ((j : Int) - (i : Int)) = (j : Int) - (i : Int) := IntWalk.i64_in _ (by omega)
        have hsame := ext_same x0 ((j : Int) - i) lo hi2
        go_wp2_with fail
        go_region_held3 (fun w' => w'.cell? (adg.add ((ofE (m.take i)).length * 4)) = some (.int .i64 x0) ∧ w'.cell? ⟨(adg.add ((ofE (m.take i)).length * 4)).block, (adg.add ((ofE (m.take i)).length * 4)).off + 1, none⟩ = some (.int .i64 ((j : Int) - i)) ∧ w'.cell? ⟨(adg.add ((ofE (m.take i)).length * 4)).block, (adg.add ((ofE (m.take i)).length * 4)).off + 2, none⟩ = some (.int .u64 lo) ∧ w'.cell? ⟨(adg.add ((ofE (m.take i)).length * 4)).block, (adg.add ((ofE (m.take i)).length * 4)).off + 3, none⟩ = some (.int .u64 hi2) ∧ w'.cell? (ad.add (i * 3)) = some (.int .i64 x0) ∧ ∃ d, w' = wc.drewN d) (first | exact ⟨d0, d1, d2, d3, d4, 1, rfl⟩) (fail)
        go_wp2_with fail
        go_roundg (m.length - j)
        case measure => omega
        case rel => exact ⟨j, _, rfl, hjm, by rw [HLJ.out]; go_num, rfl, Lib.hid (by show wc.drewN 1 = _; rw [HW2.out, World.drewN_drewN]), HNX⟩
    · obtain rfl : i = m.length := by omega
      rw [List.take_length]
      have hbc := fun w (hb : Below w3.heap.size w3 w) => blocks_calls w G cg (ofE m) (by omega) HSG.out HGO.out (HRG.out.b hb)
      rw [HBL.out] at hbc
      have hwr : Below w3.heap.size w3 wr := by rw [HWR.out]; exact drewB w3 nd
      have HB := Lib.hid hbc
      clear hbc
      go_wp2_with fail
      refine (exawake_calls _).mono ?_; rintro e w4 ⟨rfl, b4⟩
      have hb4 := hwr.trans (b4.mono hwr.size)
      have HB4 := Lib.hid (HB.out w4 hb4)
      have h1 : (((ofE m).length : Int) == ((ofE m).length : Int)) = true := by simp
      have h2 : ((m.length : Int) == (m.length : Int)) = true := by simp
      clear b4 hwr
      go_wp2_with fail
      refine HB4.out.mono ?_; rintro e w5 ⟨rfl, b5⟩
      have hb5 := hb4.trans (b5.mono hb4.size)
      go_wp2_with fail
      go_ret
      exact ⟨rfl, hb3.trans (hb5.mono hb3.size)⟩
end Go.Proofs.Ytjohfkpgghnpeaa.SetC
namespace Go.Proofs.Ytjohfkpgghnpeaa.extentsOf
open Go Go.RowKit
open Go.Proofs.Ytjohfkpgghnpeaa.Open
open Go.Proofs.Ytjohfkpgghnpeaa.ItmPr
set_option linter.unusedVariables false
set_option maxRecDepth 20000 in
theorem walk {H : Type} {enc : TypeId × Value → H} {W : World} {b : Nat} {v0 : Value} (ok0 : Value.okWide Try.prog W .any b 22 v0) {d0 : DataW H} {p0 : List MemPlace} (h0 : DataW.Trod enc Try.prog W 0 (fun _ => true) true 22 v0 d0 p0) :
    Calls Try.prog 3 #[v0] W fun e w' => e = .returned (.bool true) ∧ Below W.heap.size W w' := by
  obtain ⟨x, rfl, hok⟩ := open_sl shH Try.underlying22 (by kernel_rfl) ok0 h0
  have h := SetC.ext_walk x.A x.cap (x.l.map ofSh) W (C_held x hok) (by rw [List.length_map]; exact hok.1) (held_size x hok) (held_ver x hok)
  rw [List.length_map] at h
  exact h
end Go.Proofs.Ytjohfkpgghnpeaa.extentsOf
end
