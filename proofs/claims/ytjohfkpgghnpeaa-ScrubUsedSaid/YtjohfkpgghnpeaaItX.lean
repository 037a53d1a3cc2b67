-- packed by pack.py, a program of this claim's repo
import Derived.Test.YtjohfkpgghnpeaaItC
import Derived.Test.YtjohfkpgghnpeaaItD
import Derived.Test.YtjohfkpgghnpeaaItE
import Derived.Test.YtjohfkpgghnpeaaItB
import Derived.Test.YtjohfkpgghnpeaaItF
import Derived.Test.YtjohfkpgghnpeaaItG
import Derived.Test.YtjohfkpgghnpeaaItH
import Derived.Test.YtjohfkpgghnpeaaItA
import Derived.Test.YtjohfkpgghnpeaaItI
import Derived.Test.YtjohfkpgghnpeaaItJ
import Derived.Test.YtjohfkpgghnpeaaItK
import Derived.Test.YtjohfkpgghnpeaaItL
import Derived.Test.YtjohfkpgghnpeaaItM
import Derived.Test.YtjohfkpgghnpeaaItN
import Derived.Test.YtjohfkpgghnpeaaItO
import Derived.Test.YtjohfkpgghnpeaaItP
import Derived.Test.YtjohfkpgghnpeaaItQ
import Derived.Test.YtjohfkpgghnpeaaItR
import Derived.Test.YtjohfkpgghnpeaaItS
import Derived.Test.YtjohfkpgghnpeaaItT
import Derived.Test.YtjohfkpgghnpeaaItU
import Derived.Test.YtjohfkpgghnpeaaItV
import Derived.Test.YtjohfkpgghnpeaaItW
section
namespace Go.Proofs.Ytjohfkpgghnpeaa.SetC
open Go Go.RowKit
open Go.Proofs.Ytjohfkpgghnpeaa.Gen
open Go.Proofs.Ytjohfkpgghnpeaa.Own
open Go.Proofs.Ytjohfkpgghnpeaa.RowK
open Go.Proofs.Ytjohfkpgghnpeaa.ItemC
open Go.Proofs.Ytjohfkpgghnpeaa.PRef
open Go.Proofs.Ytjohfkpgghnpeaa.ItmPr (ofL rd_at same_eq of_eq near_eq nearL near_length near_dom ofL_ok ofL_mem)
open Go.Proofs.YtjohfkpgghnpeaaW.PrintWords (Kd)
set_option linter.unusedVariables false
theorem sameB_refl (x : It) : sameB x x = true := by simp [sameB]
theorem unlike_self (l : List H) (h : ofL [] (l ++ l) = ofL [] l) : unlikeL l l = [] := by
  unfold unlikeL
  have : (ofL [] (l ++ l)).filter (unlikeP (ofL [] l) (ofL [] l)) = [] := by
    rw [List.filter_eq_nil_iff]
    intro x _
    simp [unlikeP, sameB_refl]
  rw [this]
  rfl
def aw43 : List H := [⟨3, ⟨5, ⟨#[]⟩⟩⟩]
theorem aw43_sz : ∀ x ∈ aw43, x.f1.f1.size ≤ 140737488355328 := by
  intro x hx
  obtain rfl := List.mem_singleton.1 hx
  decide
theorem nil_sz : ∀ x ∈ ([] : List H), x.f1.f1.size ≤ 140737488355328 := fun x hx => by cases hx
theorem rd_nil (w : World) : Rd w none 0 [] := ⟨fun _ => ⟨rfl, rfl⟩, fun ad e => by cases e⟩
theorem rd_one (w : World) (x : H) : Rd (w.alloc (.cells (hc x).toArray 30)) (some ⟨w.heap.size, 0, none⟩) 1 [x] := by
  refine ⟨fun e => (by cases e), fun ad e j u hu => ?_⟩
  rw [one_flat] at hu
  exact one_cells w x ad e j u hu
set_option maxRecDepth 20000 in
set_option maxHeartbeats 4000000 in
theorem scawake_calls (W : World) : Calls Try.prog 39 #[] W fun e w' => e = .returned (.bool true) ∧ Below W.heap.size W w' := by
  have hl1 : (unlikeL aw43 []).length = 1 := by rfl
  have hl2 : (lacksL aw43 []).length = 1 := by rfl
  have hl3 : (unlikeL aw43 aw43).length = 0 := by rw [unlike_self aw43 rfl]; rfl
  have bA : Below W.heap.size W (W.alloc (.cells #[.int .i64 3, .int .u64 5, .string ⟨#[]⟩] 30)) := (Below.refl _ _).alloc (Nat.le_refl _) _
  have hrd : Rd (W.alloc (.cells #[.int .i64 3, .int .u64 5, .string ⟨#[]⟩] 30)) (some ⟨W.heap.size, 0, none⟩) 1 aw43 := rd_one W ⟨3, ⟨5, ⟨#[]⟩⟩⟩
  have hu1 := unlike_calls _ _ 1 aw43 none 0 [] (by decide) aw43_sz nil_sz hrd (rd_nil _)
  have hu2 := fun w (h : Rd w (some ⟨W.heap.size, 0, none⟩) 1 aw43) => lacks_calls w _ 1 aw43 none 0 [] (by decide) (by decide) aw43_sz nil_sz h (rd_nil _)
  have hu3 := fun w (h : Rd w (some ⟨W.heap.size, 0, none⟩) 1 aw43) => unlike_calls w _ 1 aw43 _ 1 aw43 (by decide) aw43_sz aw43_sz h h
  unfold UPost at hu1 hu3
  unfold RowPost at hu2
  rw [hl1] at hu1
  simp only [hl2] at hu2
  simp only [hl3] at hu3
  have HU1 := Lib.hid hu1
  have HU2 := Lib.hid hu2
  have HU3 := Lib.hid hu3
  have HRD := Lib.hid hrd
  clear hu1 hu2 hu3 hl1 hl2 hl3 hrd
  go_enter Try.func39, Try.ntmps39
  go_wp2_with fail
  refine HU1.out.mono ?_; rintro e w1 ⟨A1, c1, rfl, _, _, b1⟩
  have hb1 := bA.trans (b1.mono bA.size)
  have HR1 := Lib.hid (HRD.out.b b1)
  clear bA b1
  go_wp2_with fail
  refine (HU2.out w1 HR1.out).mono ?_; rintro e w2 ⟨A2, c2, rfl, _, _, b2⟩
  have hb2 := hb1.trans (b2.mono hb1.size)
  have HR2 := Lib.hid (HR1.out.b b2)
  clear hb1 b2
  go_wp2_with fail
  refine (HU3.out w2 HR2.out).mono ?_; rintro e w3 ⟨A3, c3, rfl, _, _, b3⟩
  have hb3 := hb2.trans (b3.mono hb2.size)
  clear hb2 b3
  go_wp2_with fail
  go_ret
  exact ⟨rfl, hb3⟩
theorem ofL_bytes (l : List H) : ∀ x ∈ ofL [] l, x.f1.f1 = ⟨#[]⟩ ∨ x.f1.f1.size = 32 := by
  refine ofL_mem l [] (fun y hy => by cases hy) (fun y _ h => ?_)
  unfold mayB at h
  rcases Bool.or_eq_true _ _ ▸ h with h | h
  · left
    have h1 : y.f1.f1.data.toList = [] := by simpa using h
    have h2 : y.f1.f1.data = #[] := by simpa using h1
    obtain ⟨_, ⟨_, ⟨d⟩⟩⟩ := y
    simp only at h2
    rw [h2]
  · right
    have h1 := (Bool.and_eq_true _ _ ▸ h).1
    have h2 : y.f1.f1.data.toList.length = 32 := by simpa using h1
    rw [Array.length_toList] at h2
    exact h2
theorem bytes_ne {x : ByteArray} (h : x.size ≠ 0) : x.toList.isEmpty = false := by
  rw [ByteArray.toList_eq]
  cases hd : x.data.toList with
  | nil =>
    have h0 : x.data.toList.length = x.size := Array.length_toList
    rw [hd] at h0
    exact absurd h0.symm h
  | cons a l => rfl
set_option maxRecDepth 20000 in
set_option maxHeartbeats 8000000 in
theorem used_walk (A1 : Option Addr) (c1 : Nat) (l1 : List H) (blocks : Int) (W : World) (hr1 : Kd.C k30 W A1 l1.length l1) (hc1 : l1.length ≤ c1)
    (hs1 : ∀ x ∈ l1, x.f1.f1.size ≤ 9223372036854775807) (hv1 : ∀ x ∈ l1, 0 ≤ x.f1.f0 ∧ x.f1.f0 < 18446744073709551616) :
    Calls Try.prog 8 #[.slice A1 l1.length c1, .int .i64 blocks] W fun e w' => e = .returned (.bool true) ∧ Below W.heap.size W w' := by
  have hn1 := tarnlaw09_Near.calls 100 A1 c1 l1 (nearL l1) W hr1 hc1 (near_eq l1 hs1 100 (by omega))
  have hx1 : ∀ z ∈ nearL l1, z.f1.f1.size ≤ 140737488355328 := fun z hz => (near_dom hv1 z hz).sz
  have hy1 := near_length l1
  generalize nearL l1 = x at hn1 hx1 hy1
  have hro := of_eq x (by omega) hx1 1000 (by omega)
  have hle := ofL_le x
  have hby := ofL_bytes x
  have hms := ofL_sz x hx1
  have hself := ofL_self x
  generalize ofL [] x = m at hro hle hby hms hself
  obtain ⟨b, hb⟩ : ∃ b, Go.bits .and .i64 blocks 127 = b := ⟨_, rfl⟩
  have huc := fun w A c (h : Rd w A c m) => used_calls w A c m b (by omega) hms h
  have hu0 := fun w => used_calls w none 0 [] b (by decide) nil_sz (rd_nil w)
  rw [hself] at huc
  have hbound := fun k => usedL_le (m.take k) b (fun x hx => hms x (List.mem_of_mem_take hx))
  have HN := Lib.hid hn1
  have HRO := Lib.hid hro
  have HBY := Lib.hid hby
  have HUC := Lib.hid huc
  have HU0 := Lib.hid hu0
  have HBO := Lib.hid hbound
  clear hn1 hro hby hms hself huc hu0 hbound hx1 hs1 hv1 hr1
  go_enter Try.func8, Try.ntmps8
  go_wp2_with fail
  refine HN.out.mono ?_; rintro e w1 ⟨v1, rfl, hR1, b1⟩
  obtain ⟨ho1, _⟩ := R_flat hR1
  obtain ⟨X, cx, rfl, hcx⟩ := own_slice ho1
  have HOF := Lib.hid (tarnref09_Of.calls 1000 X cx x m w1 (C_rd (own_rd ho1).1 (by omega)) hcx HRO.out)
  have hb1 : Below W.heap.size W w1 := b1
  clear hR1 ho1 b1
  go_wp2_with fail
  refine HOF.out.mono ?_; rintro e w2 ⟨v2, rfl, hR2, b2⟩
  obtain ⟨ho2, _⟩ := R_flat hR2
  obtain ⟨Y, cy, rfl, hcy⟩ := own_slice ho2
  have HRD := Lib.hid (own_rd ho2).1
  have hb2 := hb1.trans (b2.mono hb1.size)
  clear hR2 ho2 b2 hb1 HOF
  go_wp2_with fail
  go_loopw [6, 8] (fun n i wr => ∃ k : Nat, i = .int .i64 k ∧ k ≤ m.length ∧ n = .int .i64 (usedL (m.take k) b) ∧ wr = w2) (fun n i _ => m.length - (intOf i).toNat)
  case atStart => exact ⟨0, rfl, by omega, rfl, rfl⟩
  case round =>
    obtain ⟨k, rfl, hk, rfl, rfl⟩ := hrel
    have hU := HBO.out k
    rw [List.length_take] at hU
    have hU2 : usedL (m.take k) b ≤ 9007199254740992 := Nat.le_trans hU (by omega)
    clear hU
    by_cases hlt : k < m.length
    · have hx := HBY.out _ (List.getElem_mem hlt)
      have hsn := usedL_snoc (m.take k) m[k] b
      rw [← List.take_succ_eq_append_getElem hlt] at hsn
      obtain ⟨ad, rfl, c0, c1, c2⟩ := HRD.out.at_ hlt
      have HSN := Lib.hid hsn
      clear hsn
      generalize m[k] = x at hx c0 c1 c2 HSN
      obtain ⟨U, hUe⟩ : ∃ U, usedL (m.take k) b = U := ⟨_, rfl⟩
      rw [hUe] at HSN hU2 ⊢
      obtain ⟨x0, ⟨x1, x2⟩⟩ := x
      simp only at hx c0 c1 c2
      clear hUe
      by_cases hlb : x0 < b
      · rcases hx with rfl | hx
        · have HSN2 : Hid (usedL (m.take (k + 1)) b = U + 0) := HSN.out.trans (by rw [if_pos hlb]; rfl)
          clear HSN
          go_wp2_with fail
          go_roundw
          case rel => exact ⟨k + 1, by go_num, by omega, by rw [HSN2.out]; go_num, trivial⟩
          case measure => simp [intOf]; omega
        · have HSN2 : Hid (usedL (m.take (k + 1)) b = U + 32) := HSN.out.trans (by rw [if_pos hlb, hx])
          have hne : x2.toList.isEmpty = false := bytes_ne (by omega)
          clear HSN
          go_wp2_with fail
          go_roundw
          case rel => exact ⟨k + 1, by go_num, by omega, by rw [HSN2.out]; go_num, trivial⟩
          case measure => simp [intOf]; omega
      · have HSN2 : Hid (usedL (m.take (k + 1)) b = U + 0) := HSN.out.trans (by rw [if_neg hlb])
        clear HSN
        go_wp2_with fail
        go_roundw
        case rel => exact ⟨k + 1, by go_num, by omega, by rw [HSN2.out]; go_num, trivial⟩
        case measure => simp [intOf]; omega
    · obtain rfl : k = m.length := by omega
      rw [List.take_length] at hU2 ⊢
      have HR2 := HRD.out
      obtain ⟨U, hUe⟩ : ∃ U, usedL m b = U := ⟨_, rfl⟩
      rw [hUe] at HUC hU2 ⊢
      go_wp2_with fail
      refine (scawake_calls _).mono ?_; rintro e w3 ⟨rfl, b3⟩
      have hb3 := hb2.trans (b3.mono hb2.size)
      have HUC3 := Lib.hid (HUC.out w3 Y cy (HR2.b b3))
      clear b3 hb2 HR2
      go_wp2_with fail
      refine HUC3.out.mono ?_; rintro e w4 ⟨rfl, b4⟩
      have hb4 := hb3.trans (b4.mono hb3.size)
      have hUU : (((U : Int)) == (U : Int)) = true := by simp
      clear hb3 b4
      go_wp2_with fail
      refine (HU0.out w4).mono ?_; rintro e w5 ⟨rfl, b5⟩
      have hb5 := hb4.trans (b5.mono hb4.size)
      go_wp2_with fail
      go_ret
      exact ⟨rfl, hb5⟩
end Go.Proofs.Ytjohfkpgghnpeaa.SetC
namespace Go.Proofs.Ytjohfkpgghnpeaa.scrubUsed
open Go Go.RowKit
open Go.Proofs.Ytjohfkpgghnpeaa.Open
open Go.Proofs.Ytjohfkpgghnpeaa.ItmPr
set_option linter.unusedVariables false
set_option maxRecDepth 20000 in
theorem walk {H : Type} {enc : TypeId × Value → H} {W : World} {b : Nat} {v0 : Value} (ok0 : Value.okWide Try.prog W .any b 22 v0) {d0 : DataW H} {p0 : List MemPlace} (h0 : DataW.Trod enc Try.prog W 0 (fun _ => true) true 22 v0 d0 p0) (a1 : Int) (w1 : (Lit.int .i64 a1).wf = true) :
    Calls Try.prog 8 #[v0, .int .i64 a1] W fun e w' => e = .returned (.bool true) ∧ Below W.heap.size W w' := by
  obtain ⟨x, rfl, hok⟩ := open_sl shH Try.underlying22 (by kernel_rfl) ok0 h0
  have h := SetC.used_walk x.A x.cap (x.l.map ofSh) a1 W (C_held x hok) (by rw [List.length_map]; exact hok.1) (held_size x hok) (held_ver x hok)
  rw [List.length_map] at h
  exact h
end Go.Proofs.Ytjohfkpgghnpeaa.scrubUsed
end
