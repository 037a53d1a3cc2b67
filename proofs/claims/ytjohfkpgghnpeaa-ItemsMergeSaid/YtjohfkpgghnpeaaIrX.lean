-- packed by pack.py, a program of this claim's repo
import Derived.Test.YtjohfkpgghnpeaaIrC
import Derived.Test.YtjohfkpgghnpeaaIrD
import Derived.Test.YtjohfkpgghnpeaaIrE
import Derived.Test.YtjohfkpgghnpeaaIrB
import Derived.Test.YtjohfkpgghnpeaaIrF
import Derived.Test.YtjohfkpgghnpeaaIrG
import Derived.Test.YtjohfkpgghnpeaaIrH
import Derived.Test.YtjohfkpgghnpeaaIrA
import Derived.Test.YtjohfkpgghnpeaaIrI
import Derived.Test.YtjohfkpgghnpeaaIrJ
import Derived.Test.YtjohfkpgghnpeaaIrK
import Derived.Test.YtjohfkpgghnpeaaIrL
import Derived.Test.YtjohfkpgghnpeaaIrM
import Derived.Test.YtjohfkpgghnpeaaIrN
import Derived.Test.YtjohfkpgghnpeaaIrO
import Derived.Test.YtjohfkpgghnpeaaIrP
import Derived.Test.YtjohfkpgghnpeaaIrQ
import Derived.Test.YtjohfkpgghnpeaaIrR
import Derived.Test.YtjohfkpgghnpeaaIrS
import Derived.Test.YtjohfkpgghnpeaaIrT
import Derived.Test.YtjohfkpgghnpeaaIrU
import Derived.Test.YtjohfkpgghnpeaaIrV
import Derived.Test.YtjohfkpgghnpeaaIrW
section
namespace Go.Proofs.Ytjohfkpgghnpeaa.SetC
open Go Go.RowKit
open Go.Proofs.Ytjohfkpgghnpeaa.Gen
open Go.Proofs.Ytjohfkpgghnpeaa.Own
open Go.Proofs.Ytjohfkpgghnpeaa.RowK
open Go.Proofs.Ytjohfkpgghnpeaa.ItemC
open Go.Proofs.Ytjohfkpgghnpeaa.PRef
open Go.Proofs.Ytjohfkpgghnpeaa.ItmPr (ofL rd_at same_eq of_eq near_eq nearL near_length near_dom ofL_ok)
open Go.Proofs.YtjohfkpgghnpeaaW.PrintWords (Kd)
set_option linter.unusedVariables false
theorem rmerge_eq (x y : List H) (hl : x.length + y.length ≤ 500) (hs : ∀ z ∈ x ++ y, z.f1.f1.size ≤ 140737488355328) : tarnref09_Merge.f 1000 x y = some (ofL [] (x ++ y)) := by
  unfold tarnref09_Merge.f
  simp only [Option.bind_some, List.length_nil, List.nil_append]
  rw [if_pos (by omega), if_pos (by omega), of_eq _ (by rw [List.length_append]; omega) hs _ (by rw [List.length_append]; omega)]
  rfl
theorem ofL_len (l : List H) : (ofL [] l).length ≤ 64 := (ofL_ok l [] ok_nil).len
set_option maxHeartbeats 8000000 in
theorem merge_walk (A1 : Option Addr) (c1 : Nat) (l1 : List H) (A2 : Option Addr) (c2 : Nat) (l2 : List H) (W : World) (hr1 : Kd.C k30 W A1 l1.length l1) (hc1 : l1.length ≤ c1) (hr2 : Kd.C k30 W A2 l2.length l2) (hc2 : l2.length ≤ c2)
    (hs1 : ∀ x ∈ l1, x.f1.f1.size ≤ 9223372036854775807) (hs2 : ∀ x ∈ l2, x.f1.f1.size ≤ 9223372036854775807) (hv1 : ∀ x ∈ l1, 0 ≤ x.f1.f0 ∧ x.f1.f0 < 18446744073709551616) (hv2 : ∀ x ∈ l2, 0 ≤ x.f1.f0 ∧ x.f1.f0 < 18446744073709551616) :
    Calls Try.prog 7 #[.slice A1 l1.length c1, .slice A2 l2.length c2] W fun e w' => e = .returned (.bool true) ∧ Below W.heap.size W w' := by
  have hn1 := tarnlaw09_Near.calls 100 A1 c1 l1 (nearL l1) W hr1 hc1 (near_eq l1 hs1 100 (by omega))
  have hn2 := fun w (hb : Below W.heap.size W w) => tarnlaw09_Near.calls 100 A2 c2 l2 (nearL l2) w (Kd.C_below hr2 hb) hc2 (near_eq l2 hs2 100 (by omega))
  have hx1 : ∀ z ∈ nearL l1, z.f1.f1.size ≤ 140737488355328 := fun z hz => (near_dom hv1 z hz).sz
  have hx2 : ∀ z ∈ nearL l2, z.f1.f1.size ≤ 140737488355328 := fun z hz => (near_dom hv2 z hz).sz
  have hy1 := near_length l1
  have hy2 := near_length l2
  generalize nearL l1 = x at hn1 hx1 hy1
  generalize nearL l2 = y at hn2 hx2 hy2
  have hxy : ∀ z ∈ x ++ y, z.f1.f1.size ≤ 140737488355328 := fun z hz => by
    rcases List.mem_append.1 hz with h | h
    · exact hx1 z h
    · exact hx2 z h
  have hyx : ∀ z ∈ y ++ x, z.f1.f1.size ≤ 140737488355328 := fun z hz => by
    rcases List.mem_append.1 hz with h | h
    · exact hx2 z h
    · exact hx1 z h
  have hml := merge_len x y
  have hma := merge_at x y
  have hrm := rmerge_eq x y (by omega) hxy
  have hro := of_eq x (by omega) hx1 1000 (by omega)
  have hlm := ofL_len (x ++ y)
  have hlx := ofL_len x
  have hsm := same_eq (ofL [] (x ++ y)) 100 (by omega) (by omega)
  have hsx := same_eq (ofL [] x) 100 (by omega) (by omega)
  have hmg := fun (w : World) A c A' c' (h1 : Rd w A c x) (h2 : Rd w A' c' y) => merge_calls w A c x A' c' y h1 h2 (by omega) hxy
  have hmg2 := fun (w : World) A c A' c' (h1 : Rd w A c x) (h2 : Rd w A' c' y) => merge_calls w A' c' y A c x h2 h1 (by omega) hyx
  have hof := fun (w : World) A c (h1 : Rd w A c x) => of_calls w A c x (by omega) hx1 h1
  generalize ofL [] (x ++ y) = m at hml hma hrm hlm hsm hmg
  generalize ofL [] (y ++ x) = n at hml hma hmg2
  have HN1 := Lib.hid hn1
  have HN2 := Lib.hid hn2
  have HMA := Lib.hid hma
  have HML := Lib.hid hml
  have HRM := Lib.hid hrm
  have HRO := Lib.hid hro
  have HSM := Lib.hid hsm
  have HSX := Lib.hid hsx
  have HMG := Lib.hid hmg
  have HMG2 := Lib.hid hmg2
  have HOF := Lib.hid hof
  clear hn1 hn2 hma hml hrm hro hsm hsx hmg hmg2 hof hxy hyx hx1 hx2 hs1 hs2 hv1 hv2 hr1 hr2
  go_enter Try.func7, Try.ntmps7
  go_wp2_with fail
  refine HN1.out.mono ?_; rintro e w1 ⟨v1, rfl, hR1, b1⟩
  obtain ⟨ho1, _⟩ := R_flat hR1
  obtain ⟨X, cx, rfl, hcx⟩ := own_slice ho1
  have hb1 : Below W.heap.size W w1 := b1
  clear hR1 b1
  have HO1 := Lib.hid ho1
  clear ho1
  go_wp2_with fail
  refine (HN2.out _ hb1).mono ?_; rintro e w2 ⟨v2, rfl, hR2, b2⟩
  obtain ⟨ho2, _⟩ := R_flat hR2
  obtain ⟨Y, cy, rfl, hcy⟩ := own_slice ho2
  have ho1 := own_below HO1.out b2
  have rx := (own_rd ho1).1
  have ry := (own_rd ho2).1
  have hb2 := hb1.trans (b2.mono hb1.size)
  have HM1 := Lib.hid (HMG.out w2 X cx Y cy rx ry)
  have HRX := Lib.hid rx
  have HRY := Lib.hid ry
  clear hR2 b2 hb1 ho1 ho2 HO1 rx ry
  go_wp2_with fail
  refine HM1.out.mono ?_; rintro e w3 ⟨M, cm, rfl, hom, hcm, b3⟩
  have HRX3 := Lib.hid (HRX.out.b b3)
  have HRY3 := Lib.hid (HRY.out.b b3)
  have hb3 := hb2.trans (b3.mono hb2.size)
  have HOM := Lib.hid hom
  clear hb2 b3 hom
  go_wp2_with fail
  refine (awake_calls _).mono ?_; rintro e w4 ⟨rfl, b4⟩
  have HRX4 := Lib.hid (HRX3.out.b b4)
  have HRY4 := Lib.hid (HRY3.out.b b4)
  have HOM4 := Lib.hid (own_below HOM.out b4)
  have hb4 := hb3.trans (b4.mono hb3.size)
  have hrmc := tarnref09_Merge.calls 1000 X cx x Y cy y m w4 (C_rd HRX4.out (by omega)) hcx (C_rd HRY4.out (by omega)) hcy HRM.out
  have HRMC := Lib.hid hrmc
  clear hb3 b4 hrmc
  go_wp2_with fail
  refine HRMC.out.mono ?_; rintro e w5 ⟨v5, rfl, hR5, b5⟩
  obtain ⟨ho5, _⟩ := R_flat hR5
  obtain ⟨A5, c5, rfl, hc5⟩ := own_slice ho5
  have ho4 := own_below HOM4.out b5
  have hb5 := hb4.trans (b5.mono hb4.size)
  have hsc := tarnref09_Same.calls 100 M cm m A5 c5 m true w5 (C_own ho4 (by omega)) hcm (C_own ho5 (by omega)) hc5 HSM.out
  have HSC := Lib.hid hsc
  have HRX5 := Lib.hid (HRX4.out.b b5)
  have HRY5 := Lib.hid (HRY4.out.b b5)
  have HOM5 := Lib.hid ho4
  clear hR5 ho5 ho4 hb4 b5 hsc
  go_wp2_with fail
  refine HSC.out.mono ?_; rintro e w6 ⟨rfl, ⟨nd, rfl⟩⟩
  have HRX6 := Lib.hid (HRX5.out.b (drewB w5 nd))
  have HRY6 := Lib.hid (HRY5.out.b (drewB w5 nd))
  have HOM6 := Lib.hid (own_below HOM5.out (drewB w5 nd))
  have hb6 : Below W.heap.size W (w5.drewN nd) := bN hb5 nd
  generalize w5.drewN nd = w6 at HRX6 HRY6 HOM6 hb6 ⊢
  have HOF6 := Lib.hid (HOF.out w6 X cx HRX6.out)
  clear hb5
  go_wp2_with fail
  refine HOF6.out.mono ?_; rintro e w7 ⟨v7, rfl, hset, b7⟩
  have HRX7 := Lib.hid (HRX6.out.b b7)
  have HRY7 := Lib.hid (HRY6.out.b b7)
  have HOM7 := Lib.hid (own_below HOM6.out b7)
  have hb7 := hb6.trans (b7.mono hb6.size)
  have HAL := Lib.hid (all_calls _ _ _ _ _ hset)
  clear hb6 b7 hset
  go_wp2_with fail
  refine HAL.out.mono ?_; rintro e w8 ⟨A8, c8, rfl, ho8, hc8, b8⟩
  have HRX8 := Lib.hid (HRX7.out.b b8)
  have HRY8 := Lib.hid (HRY7.out.b b8)
  have HOM8 := Lib.hid (own_below HOM7.out b8)
  have hb8 := hb7.trans (b8.mono hb7.size)
  have HO8 := Lib.hid ho8
  have HROC := Lib.hid (tarnref09_Of.calls 1000 X cx x (ofL [] x) w8 (C_rd HRX8.out (by omega)) hcx HRO.out)
  clear hb7 b8 ho8
  go_wp2_with fail
  refine HROC.out.mono ?_; rintro e w9 ⟨v9, rfl, hR9, b9⟩
  obtain ⟨ho9, _⟩ := R_flat hR9
  obtain ⟨A9, c9, rfl, hc9⟩ := own_slice ho9
  have HRX9 := Lib.hid (HRX8.out.b b9)
  have HRY9 := Lib.hid (HRY8.out.b b9)
  have HOM9 := Lib.hid (own_below HOM8.out b9)
  have hb9 := hb8.trans (b9.mono hb8.size)
  have HSC9 := Lib.hid (tarnref09_Same.calls 100 A8 c8 (ofL [] x) A9 c9 (ofL [] x) true w9 (C_own (own_below HO8.out b9) (by omega)) hc8 (C_own ho9 (by omega)) hc9 HSX.out)
  clear hR9 ho9 hb8 b9
  go_wp2_with fail
  refine HSC9.out.mono ?_; rintro e w10 ⟨rfl, ⟨nd2, rfl⟩⟩
  have HRX10 := Lib.hid (HRX9.out.b (drewB w9 nd2))
  have HRY10 := Lib.hid (HRY9.out.b (drewB w9 nd2))
  have HOM10 := Lib.hid (own_below HOM9.out (drewB w9 nd2))
  have hb10 : Below W.heap.size W (w9.drewN nd2) := bN hb9 nd2
  generalize w9.drewN nd2 = w10 at HRX10 HRY10 HOM10 hb10 ⊢
  have HM2 := Lib.hid (HMG2.out w10 X cx Y cy HRX10.out HRY10.out)
  clear hb9
  go_wp2_with fail
  refine HM2.out.mono ?_; rintro e w11 ⟨A11, c11, rfl, ho11, hc11, b11⟩
  have rm := (own_rd (own_below HOM10.out b11)).1
  have rn := (own_rd ho11).1
  have hb11 := hb10.trans (b11.mono hb10.size)
  have HRM2 := Lib.hid rm
  have HRN := Lib.hid rn
  have hlen : (m.length == n.length) = true := by simp [HML.out]
  clear rm rn hb10 b11 ho11
  have hml := HML.out
  rw [← hml]
  clear hml hlen
  go_wp2_with fail
  go_loopw [9] (fun i wr => ∃ k : Nat, i = .int .i64 k ∧ k ≤ m.length ∧ ∃ nd, wr = w11.drewN nd) (fun i _ => m.length - (intOf i).toNat)
  case atStart => exact ⟨0, rfl, by omega, 0, rfl⟩
  case round =>
    obtain ⟨k, rfl, hk, nd3, hwr⟩ := hrel
    have HWR := Lib.hid hwr
    clear hwr
    by_cases hlt : k < m.length
    · have hlt2 : k < n.length := by rw [← HML.out]; exact hlt
      have hma := HMA.out k hlt hlt2
      obtain ⟨ad, rfl, d0, d1, _⟩ := HRM2.out.at_ hlt
      obtain ⟨ad', rfl, e0, e1, _⟩ := HRN.out.at_ hlt2
      rw [← hma.1] at e0
      rw [← hma.2] at e1
      generalize m[k].f0 = p0 at d0 e0
      generalize m[k].f1.f0 = p1 at d1 e1
      clear hma
      have d0 : wr.cell? (ad.add (k * 3)) = some (.int .i64 p0) := by rw [HWR.out]; exact d0
      have d1 : wr.cell? ⟨(ad.add (k * 3)).block, (ad.add (k * 3)).off + 1, none⟩ = some (.int .u64 p1) := by rw [HWR.out]; exact d1
      have e0 : wr.cell? (ad'.add (k * 3)) = some (.int .i64 p0) := by rw [HWR.out]; exact e0
      have e1 : wr.cell? ⟨(ad'.add (k * 3)).block, (ad'.add (k * 3)).off + 1, none⟩ = some (.int .u64 p1) := by rw [HWR.out]; exact e1
      have z0 : (0 : Int) ≤ (k : Int) := by omega
      have z1 : (k : Int) < (m.length : Int) := by omega
      have hpp : (p0 == p0) = true := by simp
      have hq1 : (p1 == p1) = true := by simp
      go_wp2_with fail
      go_quiet (fail)
      go_wp2_with fail
      go_roundw
      case rel => exact ⟨k + 1, by go_num, by omega, nd3 + _, by rw [HWR.out, World.drewN_drewN]⟩
      case measure => simp [intOf]; omega
    · obtain rfl : k = m.length := by omega
      go_wp2_with fail
      go_ret
      exact ⟨rfl, by rw [HWR.out]; exact bN hb11 _⟩
end Go.Proofs.Ytjohfkpgghnpeaa.SetC
namespace Go.Proofs.Ytjohfkpgghnpeaa.itemsMerge
open Go Go.RowKit
open Go.Proofs.Ytjohfkpgghnpeaa.Open
open Go.Proofs.Ytjohfkpgghnpeaa.ItmPr
set_option linter.unusedVariables false
set_option maxRecDepth 20000 in
theorem walk {H : Type} {enc : TypeId × Value → H} {W : World} {b : Nat} {v0 : Value} (ok0 : Value.okWide Try.prog W .any b 22 v0) {d0 : DataW H} {p0 : List MemPlace} (h0 : DataW.Trod enc Try.prog W 0 (fun _ => true) true 22 v0 d0 p0)
    {v1 : Value} (ok1 : Value.okWide Try.prog W .any b 22 v1) {d1 : DataW H} {p1 : List MemPlace} (h1 : DataW.Trod enc Try.prog W 0 (fun _ => true) true 22 v1 d1 p1) :
    Calls Try.prog 7 #[v0, v1] W fun e w' => e = .returned (.bool true) ∧ Below W.heap.size W w' := by
  obtain ⟨x, rfl, hok⟩ := open_sl shH Try.underlying22 (by kernel_rfl) ok0 h0
  obtain ⟨y, rfl, hok1⟩ := open_sl shH Try.underlying22 (by kernel_rfl) ok1 h1
  have h := SetC.merge_walk x.A x.cap (x.l.map ofSh) y.A y.cap (y.l.map ofSh) W (C_held x hok) (by rw [List.length_map]; exact hok.1) (C_held y hok1) (by rw [List.length_map]; exact hok1.1) (held_size x hok) (held_size y hok1) (held_ver x hok) (held_ver y hok1)
  rw [List.length_map, List.length_map] at h
  exact h
end Go.Proofs.Ytjohfkpgghnpeaa.itemsMerge
end
