/- The walk of the law SuperPlays. -/
import Derived.Test.YtfacifhlcaghiaaSupG
import Derived.BigRegion
import Derived.Deep.CutBlock
namespace Go.Proofs.Ytfacifhlcaghiaa.Sup
open Go Go.RowKit
open Go.Proofs.Ytfacifhlcaghiaa.Gen
open Go.Proofs.Ytfacifhlcaghiaa.Own
open Go.Proofs.Ytfacifhlcaghiaa.RowK
open Go.Proofs.Ytfacifhlcaghiaa.Num
open Go.Proofs.Ytfacifhlcaghiaa.NumC
open Go.Proofs.Ytfacifhlcaghiaa.Dsk
set_option linter.unusedVariables false
set_option linter.unusedSimpArgs false
theorem cut48' (u : Sec) : (⟨u.toArray⟩ : ByteArray).extract 0 (min u.length 48) = ⟨(u.take 48).toArray⟩ := by
  rw [quiet_extract, List.drop_zero]
  congr 2
  rw [Nat.sub_zero, List.take_eq_take_iff]
  omega
theorem word5_f {W1 w : World} {g : Nat} {S : List Sec} {L : List Wr} (h : DkF W1 g S L w) (t : Sec) (ht : t.length ≤ 48) : Calls Try.prog 33 #[.string ⟨t.toArray⟩] w fun e w' => e = .returned (.string ⟨(padW t).toArray⟩) ∧ DkF W1 g S L w' := by
  refine (word5_any t ht w).mono ?_
  rintro e w' ⟨rfl, b⟩
  exact ⟨rfl, h.b b⟩
set_option maxRecDepth 20000 in
set_option maxHeartbeats 8000000 in
theorem plays_walk (W : World) (A C : Option Addr) (cap cap2 : Nat) (ls : List ByteArray) (xs : List Int) (hll : ls.length ≤ 9223372036854775807) (hxl : xs.length ≤ 9223372036854775807)
    (hls : ∀ i, (hi : i < ls.length) → ∃ ad, A = some ad ∧ W.cell? (ad.add i) = some (.string ls[i]) ∧ ls[i].size ≤ 9223372036854775807)
    (hxs : ∀ i, (hi : i < xs.length) → ∃ ad, C = some ad ∧ W.cell? (ad.add i) = some (.int .u64 xs[i]) ∧ 0 ≤ xs[i] ∧ xs[i] < 18446744073709551616) (fr : Int) :
    Calls Try.prog 12 #[.slice A ls.length cap, .slice C xs.length cap2, .int .u64 fr] W fun e w' => e = .returned (.bool true) ∧ Below W.heap.size W w' := by
  obtain ⟨a0, ha0, ha⟩ : ∃ a0 : Nat, Go.bits .and .u64 fr 16777215 = (a0 : Int) ∧ a0 < 16777216 := ⟨(fr % 16777216).toNat, by rw [show Go.bits .and .u64 fr 16777215 = fr % 16777216 from and_mask_u64 fr 24 (by decide)]; omega, by omega⟩
  have HLS := Lib.hid hls
  have HXS := Lib.hid hxs
  have HNW := Lib.hid (dk_new W 3 (by omega) (by omega))
  rw [show ((3 : Nat) : Int) = 3 from rfl] at HNW
  clear hls hxs
  go_enter Try.func12, Try.ntmps12
  go_wp2_with fail
  refine HNW.out.mono ?_; rintro e w1 ⟨g, rfl, d1⟩
  clear HNW
  go_upto_if 25 with fail
  go_cut [10] (fun s wx => ∃ (t : Sec) (S : List Sec), s = .string ⟨t.toArray⟩ ∧ DkF W g S [] wx ∧ Hid (Two S a0 t 16777216))
  case first =>
    by_cases h0 : a0 = 0
    · subst h0
      go_wp2_with fail
      go_meet
      exact ⟨[], _, rfl, d1, Lib.hid ((two_blank 3 (by omega)).up (by omega))⟩
    · have t1 : decide (0 < (a0 : Int)) = true := decide_eq_true (by omega)
      have t1n : decide (0 < a0) = true := decide_eq_true (by omega)
      have H0 := Lib.hid h0
      have hpos : 0 < a0 := by omega
      clear h0
      go_wp2_with fail
      refine (dk_write d1 H0.out (by omega) [102, 105, 114, 115, 116] (by decide) (by simp)).mono ?_; rintro e w2 ⟨rfl, d2⟩
      go_wp2_with fail
      refine (word5_f d2 [102, 105, 114, 115, 116] (by decide)).mono ?_; rintro e w3 ⟨rfl, d3⟩
      have q := two_first H0.out ha (w := [102, 105, 114, 115, 116]) (by decide)
      generalize padW [102, 105, 114, 115, 116] = P at q
      have Q := Lib.hid q
      clear q
      go_wp2_with fail
      refine (dk_sync d3).mono ?_; rintro e w4 ⟨rfl, d4⟩
      go_wp2_with fail
      go_meet
      exact ⟨P, _, rfl, d4, Q⟩
  case rest =>
    obtain ⟨t, S, rfl, d, q⟩ := hcut
    clear d1
    go_wp2_with fail
    go_loopw [9, 10, 11] (fun av lv iv wr => ∃ (i a : Nat) (t : Sec) (S : List Sec), av = .int .u64 a ∧ lv = .string ⟨t.toArray⟩ ∧ iv = .int .i64 i ∧ i ≤ 30 ∧ DkF W g S [] wr ∧ Hid (Two S a t (16777216 + 2 * i))) (fun _ _ iv _ => 31 - (intOf iv).toNat)
    case atStart => exact ⟨0, a0, t, S, rfl, rfl, rfl, by omega, d, q⟩
    case round =>
      clear d q
      obtain ⟨i, a, t, S, rfl, rfl, rfl, hi30, d, q⟩ := hrel
      by_cases h1 : i < ls.length
      · have t1 : decide ((i : Int) < (ls.length : Int)) = true := decide_eq_true (by omega)
        have t1n : decide (i < ls.length) = true := decide_eq_true h1
        by_cases h2 : i < 30
        · have t2 : decide ((i : Int) < 30) = true := decide_eq_true (by omega)
          have t2n : decide (i < 30) = true := decide_eq_true h2
          obtain ⟨ad, rfl, hc, hu⟩ := HLS.out i h1
          obtain ⟨u, hu0⟩ : ∃ u : Sec, ls[i] = ⟨u.toArray⟩ := ⟨ls[i].data.toList, rfl⟩
          rw [hu0] at hc hu
          rw [size_mk] at hu
          have hcell := cellB d.below hc
          have i0 : (0 : Int) ≤ (i : Int) := by omega
          have i1 : (i : Int) < (ls.length : Int) := by omega
          have hm1 : min (u.length : Int) 48 = ((min u.length 48 : Nat) : Int) := by omega
          have hm2 : min u.length 48 ≤ u.length := by omega
          have x1 := cut48' u
          have lv : (u.take 48).length ≤ 48 := by rw [List.length_take]; omega
          generalize u.take 48 = v at x1 lv
          obtain ⟨n, hn⟩ : ∃ n, n = nextN S [] 0 := ⟨_, rfl⟩
          have hnx := q.out.next
          rw [← hn] at hnx
          have hn0 : n ≠ 0 := by omega
          have hnn : n < 18446744073709551616 := by omega
          have HAN := Lib.hid hnx.2.2.2.1
          have HLY := Lib.hid fun f => q.out.lay (by omega) lv f hn
          have HNX := Lib.hid (dk_next (d.b (Below.refl _ _).drew) q.out (by omega))
          have HLN := Lib.hid fun w (h : DkF W g S [] w) => lnext_any h q.out (by omega)
          rw [← hn] at HNX HLN
          have HL2 := Lib.hid q.out.len
          have HN0 := Lib.hid hn0
          clear hnx hn hu0 hc
          go_wp2_with fail
          go_region
          go_wp2_with fail
          refine HNX.out.mono ?_; rintro e w6 ⟨rfl, d6⟩
          clear HNX
          go_wp2_with fail
          refine (HLN.out _ d6).mono ?_; rintro e w7 ⟨rfl, d7⟩
          clear HLN
          go_wp2_with fail
          refine (dk_write d7 HN0.out hnn v lv HL2.out).mono ?_; rintro e w8 ⟨rfl, d8⟩
          clear hcell x1 hm1 hm2 d6 d7
          by_cases hx : i < xs.length
          · have t3 : decide ((xs.length : Int) ≤ (i : Int)) = false := decide_eq_false (by omega)
            have t3n : decide (xs.length ≤ i) = false := decide_eq_false (by omega)
            obtain ⟨cd, rfl, hcx, hx0, hx1⟩ := HXS.out i hx
            have j1 : (i : Int) < (xs.length : Int) := by omega
            have hcell := cellB d8.below hcx
            generalize xs[i] = x at hcell hcx hx0 hx1
            obtain ⟨y, hy, hy4⟩ : ∃ y : Nat, Go.bits .and .u64 x 3 = (y : Int) ∧ y < 4 := ⟨(x % 4).toNat, by rw [show Go.bits .and .u64 x 3 = x % 4 from and_mask_u64 x 2 (by decide)]; omega, by omega⟩
            clear hcx hx
            by_cases hy0 : y = 0
            · subst hy0
              go_wp2_with fail
              refine (dk_sync d8).mono ?_; rintro e w9 ⟨rfl, d9⟩
              rw [sync_one] at d9
              have q9 := HLY.out 1
              rw [if_pos rfl, if_pos rfl] at q9
              clear HLY
              generalize S.set _ _ = S9 at d9 q9
              have Q9 := Lib.hid q9
              clear q9
              go_wp2_with fail
              refine (dk_read d9 Q9.out).mono ?_; rintro e w10 ⟨rfl, d10⟩
              go_wp2_with fail
              refine (word5_f d10 v lv).mono ?_; rintro e w11 ⟨rfl, d11⟩
              go_wp2_with fail
              go_roundw
              case rel => exact ⟨i + 1, n, padW v, S9, rfl, rfl, by go_num, by omega, d11, Lib.hid (show Two S9 n (padW v) (16777216 + 2 * (i + 1)) from Q9.out.up (by omega))⟩
              case measure => simp [intOf]; omega
            · have hy1 : ((y : Int) == 0) = false := by simp; omega
              have hy2 : (y == 0) = false := by simp [hy0]
              go_wp2_with fail
              refine (dk_crash d8 (x / 4) (by omega) (by omega)).mono ?_; rintro e w9 ⟨rfl, d9⟩
              rw [crash_one] at d9
              by_cases hF : fate (x / 4) 0 = 1
              · rw [hF] at d9
                have q9 := HLY.out 1
                rw [if_pos rfl, if_pos rfl] at q9
                clear HLY hF
                generalize S.set _ _ = S9 at d9 q9
                have Q9 := Lib.hid q9
                clear q9
                go_wp2_with fail
                refine (dk_read d9 Q9.out).mono ?_; rintro e w10 ⟨rfl, d10⟩
                go_wp2_with fail
                refine (word5_f d10 v lv).mono ?_; rintro e w11 ⟨rfl, d11⟩
                go_wp2_with fail
                go_roundw
                case rel => exact ⟨i + 1, n, padW v, S9, rfl, rfl, by go_num, by omega, d11, Lib.hid (show Two S9 n (padW v) (16777216 + 2 * (i + 1)) from Q9.out.up (by omega))⟩
                case measure => simp [intOf]; omega
              · have q9 := HLY.out (fate (x / 4) 0)
                rw [if_neg hF, if_neg hF] at q9
                clear HLY hF
                by_cases hz : a = 0
                · subst hz
                  generalize S.set _ _ = S9 at d9 q9
                  have Q9 := Lib.hid q9
                  clear q9
                  go_wp2_with fail
                  refine (dk_read d9 Q9.out).mono ?_; rintro e w10 ⟨rfl, d10⟩
                  go_wp2_with fail
                  go_roundw
                  case rel => exact ⟨i + 1, 0, t, S9, rfl, rfl, by go_num, by omega, d10, Lib.hid (show Two S9 0 t (16777216 + 2 * (i + 1)) from Q9.out.up (by omega))⟩
                  case measure => simp [intOf]; omega
                · have han := HAN.out hz
                  have k1 : ((a : Int) == (n : Int)) = false := by simp; omega
                  have k2 : (a == n) = false := by simp; omega
                  have k3 : decide (0 < (a : Int)) = true := decide_eq_true (by omega)
                  have k3n : decide (0 < a) = true := decide_eq_true (by omega)
                  have hpos : 0 < a := by omega
                  clear han
                  generalize S.set _ _ = S9 at d9 q9
                  have Q9 := Lib.hid q9
                  clear q9
                  go_wp2_with fail
                  refine (dk_read d9 Q9.out).mono ?_; rintro e w10 ⟨rfl, d10⟩
                  go_wp2_with fail
                  go_roundw
                  case rel => exact ⟨i + 1, a, t, S9, rfl, rfl, by go_num, by omega, d10, Lib.hid (show Two S9 a t (16777216 + 2 * (i + 1)) from Q9.out.up (by omega))⟩
                  case measure => simp [intOf]; omega
          · have t3 : decide ((xs.length : Int) ≤ (i : Int)) = true := decide_eq_true (by omega)
            have t3n : decide (xs.length ≤ i) = true := decide_eq_true (by omega)
            clear hx
            go_wp2_with fail
            refine (dk_sync d8).mono ?_; rintro e w9 ⟨rfl, d9⟩
            rw [sync_one] at d9
            have q9 := HLY.out 1
            rw [if_pos rfl, if_pos rfl] at q9
            clear HLY
            generalize S.set _ _ = S9 at d9 q9
            have Q9 := Lib.hid q9
            clear q9
            go_wp2_with fail
            refine (dk_read d9 Q9.out).mono ?_; rintro e w10 ⟨rfl, d10⟩
            go_wp2_with fail
            refine (word5_f d10 v lv).mono ?_; rintro e w11 ⟨rfl, d11⟩
            go_wp2_with fail
            go_roundw
            case rel => exact ⟨i + 1, n, padW v, S9, rfl, rfl, by go_num, by omega, d11, Lib.hid (show Two S9 n (padW v) (16777216 + 2 * (i + 1)) from Q9.out.up (by omega))⟩
            case measure => simp [intOf]; omega
        · have t2 : decide ((i : Int) < 30) = false := decide_eq_false (by omega)
          have t2n : decide (i < 30) = false := decide_eq_false h2
          clear h2
          go_wp2_with fail
          refine (awake5_f d).mono ?_; rintro e w6 ⟨rfl, d6⟩
          go_wp2_with fail
          go_ret
          exact ⟨rfl, d6.below⟩
      · have t1 : decide ((i : Int) < (ls.length : Int)) = false := decide_eq_false (by omega)
        have t1n : decide (i < ls.length) = false := decide_eq_false h1
        clear h1
        go_wp2_with fail
        refine (awake5_f d).mono ?_; rintro e w6 ⟨rfl, d6⟩
        go_wp2_with fail
        go_ret
        exact ⟨rfl, d6.below⟩
end Go.Proofs.Ytfacifhlcaghiaa.Sup
namespace Go.Proofs.Ytfacifhlcaghiaa.superPlays
open Go Go.RowKit
open Go.Proofs.Ytfacifhlcaghiaa.Open
set_option linter.unusedVariables false
theorem strs_cells {W : World} {y : Sl ByteArray} (h : (Sh.sl .str).ok W y) : ∀ i, (hi : i < y.l.length) → ∃ ad, y.A = some ad ∧ W.cell? (ad.add i) = some (.string y.l[i]) ∧ y.l[i].size ≤ 9223372036854775807 := by
  obtain ⟨h1, h2, h3, h4, h5⟩ := h
  intro i hi
  cases hA : y.A with
  | none => rw [(h3 hA).1] at hi; simp at hi
  | some a =>
    refine ⟨a, rfl, ?_, ?_⟩
    · have := h4 a hA i y.l[i] (List.getElem?_eq_getElem hi) 0 (.string y.l[i]) rfl
      simpa [Sh.size] using this
    · have : y.l[i].size ≤ maxLen := h5 _ (List.getElem_mem hi)
      unfold maxLen at this
      omega
theorem u64s_cells {W : World} {y : Sl Int} (h : (Sh.sl (.int .u64)).ok W y) : ∀ i, (hi : i < y.l.length) → ∃ ad, y.A = some ad ∧ W.cell? (ad.add i) = some (.int .u64 y.l[i]) ∧ 0 ≤ y.l[i] ∧ y.l[i] < 18446744073709551616 := by
  obtain ⟨h1, h2, h3, h4, h5⟩ := h
  intro i hi
  cases hA : y.A with
  | none => rw [(h3 hA).1] at hi; simp at hi
  | some a =>
    have hb := bounds_u64 (h5 _ (List.getElem_mem hi))
    refine ⟨a, rfl, ?_, hb.1, by omega⟩
    have := h4 a hA i y.l[i] (List.getElem?_eq_getElem hi) 0 (.int .u64 y.l[i]) rfl
    simpa [Sh.size] using this
set_option maxRecDepth 20000 in
theorem walk {H : Type} {enc : TypeId × Value → H} {W : World} {b : Nat} {v0 : Value} (ok0 : Value.okWide Try.prog W .any b 27 v0) {d0 : DataW H} {p0 : List MemPlace} (h0 : DataW.Trod enc Try.prog W 0 (fun _ => true) true 27 v0 d0 p0)
    {v1 : Value} (ok1 : Value.okWide Try.prog W .any b 68 v1) {d1 : DataW H} {p1 : List MemPlace} (h1 : DataW.Trod enc Try.prog W 0 (fun _ => true) true 68 v1 d1 p1) (a2 : Int) (w2 : (Lit.int .u64 a2).wf = true) :
    Calls Try.prog 12 #[v0, v1, .int .u64 a2] W fun e w' => e = .returned (.bool true) ∧ Below W.heap.size W w' := by
  obtain ⟨x, rfl, hok⟩ := open_sl .str Try.underlying27 (by kernel_rfl) ok0 h0
  obtain ⟨y, rfl, hok1⟩ := open_sl (.int .u64) Try.underlying68 (by kernel_rfl) ok1 h1
  have e1 : x.l.length ≤ maxLen := Nat.le_trans hok.1 hok.2.1
  have e2 : y.l.length ≤ maxLen := Nat.le_trans hok1.1 hok1.2.1
  unfold maxLen at e1 e2
  exact Sup.plays_walk W x.A y.A x.cap y.cap x.l y.l (by omega) (by omega) (strs_cells hok) (u64s_cells hok1) a2
end Go.Proofs.Ytfacifhlcaghiaa.superPlays
