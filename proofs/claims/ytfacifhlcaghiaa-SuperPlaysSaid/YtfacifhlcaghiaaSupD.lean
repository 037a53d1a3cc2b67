/- Contracts of layer 5 (super): laid on a disk, read, the next number. -/
import Derived.Test.YtfacifhlcaghiaaSupC
namespace Go.Proofs.Ytfacifhlcaghiaa.Sup
open Go Go.RowKit
open Go.Proofs.Ytfacifhlcaghiaa.Gen
open Go.Proofs.Ytfacifhlcaghiaa.Own
open Go.Proofs.Ytfacifhlcaghiaa.RowK
open Go.Proofs.Ytfacifhlcaghiaa.Num
open Go.Proofs.Ytfacifhlcaghiaa.NumC
open Go.Proofs.Ytfacifhlcaghiaa.Dsk
set_option linter.unusedVariables false
set_option linter.unusedSimpArgs false
/-- A disk, or none; its sectors and writings. -/
def DkO (w : World) (B : Nat) (p : Option Hd) (S : List Sec) (L : List Wr) : Prop := match p with | some h => IsDk w B h S L | none => S = [] ∧ L = []
def ptrO (p : Option Hd) : Value := .pointer (p.map fun h => ⟨h.g, 0, none⟩)
theorem DkO.b {w w' : World} {B : Nat} {p : Option Hd} {S : List Sec} {L : List Wr} (d : DkO w B p S L) (hb : Below w.heap.size w w') : DkO w' B p S L := by
  cases p with
  | none => exact d
  | some h => exact IsDk.b d hb
/-- What is read of a sector; nothing where there is none. -/
def secR (S : List Sec) (L : List Wr) (a : Int) : Sec := if 0 ≤ a ∧ a < S.length then rdL S L a.toNat else []
def errR (S : List Sec) (a : Int) : Int := if 0 ≤ a ∧ a < S.length then 0 else 1
theorem secR_len {w : World} {B : Nat} {p : Option Hd} {S : List Sec} {L : List Wr} (d : DkO w B p S L) (a : Int) : (secR S L a).length ≤ 64 := by
  unfold secR
  split
  · rename_i h
    cases p with
    | none => obtain ⟨rfl, rfl⟩ := d; simp at h; omega
    | some q => rw [rdL_len (IsDk.ok d) (by omega)]; exact Nat.le_refl _
  · exact Nat.zero_le _
theorem read_any (w : World) (B : Nat) (p : Option Hd) (S : List Sec) (L : List Wr) (d : DkO w B p S L) (a : Int) :
    Calls Try.prog 23 #[ptrO p, .int .i64 a] w fun e w' => e = .returned (.tuple #[.string ⟨(secR S L a).toArray⟩, .int .i64 (errR S a)]) ∧ Below w.heap.size w w' := by
  by_cases h : 0 ≤ a ∧ a < S.length
  · unfold secR errR
    rw [if_pos h, if_pos h]
    cases p with
    | none => obtain ⟨rfl, rfl⟩ := d; simp at h; omega
    | some q =>
      obtain ⟨n, rfl⟩ : ∃ n : Nat, a = n := ⟨a.toNat, by omega⟩
      rw [Int.toNat_natCast]
      exact read_in w B q S L d n (by omega)
  · unfold secR errR
    rw [if_neg h, if_neg h]
    exact read_out w p B S L a (fun q e => by subst e; exact ⟨d, h⟩)
/-- The better one of two words. -/
def best (g acc : Nat × Sec × Bool) : Nat × Sec × Bool := if g.2.2 = true ∧ acc.1 < g.1 then (g.1, g.2.1, true) else acc
def readAcc (S : List Sec) (L : List Wr) (a : Int) : Nat → Nat × Sec × Bool
  | 0 => (0, [], false)
  | i + 1 => best (getS (secR S L (a + i))) (readAcc S L a i)
/-- The word that was laid last. -/
def readS (S : List Sec) (L : List Wr) (a : Int) : Nat × Sec × Bool := if a < 0 ∨ 4096 < a then (0, [], false) else readAcc S L a 2
theorem getS_lt (s : Sec) : (getS s).1 < 18446744073709551616 := by
  unfold getS
  split
  · split
    · decide
    · exact n8_lt s
  · decide
theorem getS_len (s : Sec) : (getS s).2.1.length ≤ 64 := by
  unfold getS
  split
  · split
    · decide
    · simp only [List.length_append, List.length_drop, List.length_take]; omega
  · decide
set_option maxRecDepth 20000 in
set_option maxHeartbeats 4000000 in
theorem sread_any (w : World) (B : Nat) (p : Option Hd) (S : List Sec) (L : List Wr) (d : DkO w B p S L) (a : Int) (h0 : -9223372036854775808 ≤ a) (h1 : a ≤ 9223372036854775807) :
    Calls Try.prog 35 #[ptrO p, .int .i64 a] w fun e w' => e = .returned (.tuple #[.int .u64 (readS S L a).1, .string ⟨(readS S L a).2.1.toArray⟩, .bool (readS S L a).2.2]) ∧ Below w.heap.size w w' := by
  have hrd := fun w' (hb : Below w.heap.size w w') (a : Int) => read_any w' B p S L (d.b hb) a
  have hgl := fun a => secR_len d a
  unfold ptrO at hrd ⊢
  generalize p.map (fun h => (⟨h.g, 0, none⟩ : Addr)) = P at hrd ⊢
  have HRD := Lib.hid hrd
  have HGL := Lib.hid hgl
  clear hrd hgl d
  by_cases hlo : a < 0
  · have hr : readS S L a = (0, [], false) := if_pos (.inl hlo)
    have t1 : decide (a < 0) = true := decide_eq_true hlo
    rw [hr]
    clear hr
    go_enter Try.func35, Try.ntmps35
    go_wp2_with fail
    exact bodyPost_ret (v := .tuple #[.int .u64 0, .string ⟨#[]⟩, .bool false]) (by simp [results, Try.results35, go_sem]) rfl ⟨rfl, Below.refl _ _⟩
  · have t1 : decide (a < 0) = false := decide_eq_false hlo
    by_cases hhi : 4096 < a
    · have hr : readS S L a = (0, [], false) := if_pos (.inr hhi)
      have t2 : decide (4096 < a) = true := decide_eq_true hhi
      rw [hr]
      clear hr
      go_enter Try.func35, Try.ntmps35
      go_wp2_with fail
      exact bodyPost_ret (v := .tuple #[.int .u64 0, .string ⟨#[]⟩, .bool false]) (by simp [results, Try.results35, go_sem]) rfl ⟨rfl, Below.refl _ _⟩
    · have t2 : decide (4096 < a) = false := decide_eq_false hhi
      have hr : readS S L a = readAcc S L a 2 := if_neg (by omega)
      rw [hr]
      clear hr
      go_enter Try.func35, Try.ntmps35
      go_wp2_with fail
      go_loopw [7, 8, 9, 22] (fun nv sv fv iv wr => ∃ i : Nat, iv = .int .i64 i ∧ i ≤ 2 ∧ (∃ c : Nat × Sec × Bool, Hid (c = readAcc S L a i) ∧ nv = .int .u64 c.1 ∧ sv = .string ⟨c.2.1.toArray⟩ ∧ fv = .bool c.2.2) ∧ Below w.heap.size w wr) (fun nv sv fv iv _ => 2 - (intOf iv).toNat)
      case atStart => exact ⟨0, rfl, by omega, ⟨(0, [], false), Lib.hid rfl, rfl, rfl, rfl⟩, Below.refl _ _⟩
      case round =>
        obtain ⟨i, rfl, hi, ⟨⟨c1, c2, c3⟩, HC, rfl, rfl, rfl⟩, hb⟩ := hrel
        by_cases hlt : i < 2
        · have hget := fun w' => get_any (secR S L (a + i)) (by have := HGL.out (a + i); omega) w'
          have hcn : readAcc S L a (i + 1) = best (getS (secR S L (a + i))) (c1, c2, c3) := by rw [HC.out]; rfl
          have HRDi := Lib.hid (HRD.out wr hb (a + i))
          generalize secR S L (a + i) = s at hget hcn HRDi
          have hlt1 := getS_lt s
          generalize getS s = g at hget hcn hlt1
          obtain ⟨g1, g2, g3⟩ := g
          have HGET := Lib.hid hget
          have hcn2 : best (g1, g2, g3) (c1, c2, c3) = if g3 = true ∧ c1 < g1 then (g1, g2, true) else (c1, c2, c3) := rfl
          rw [hcn2] at hcn
          have HCN := Lib.hid hcn
          simp only at hlt1
          have hw1 : 0 ≤ a + (i : Int) := by omega
          have hw2 : a + (i : Int) ≤ 5000 := by omega
          clear hget hcn hcn2
          cases g3 with
          | false =>
            go_wp2_with fail
            refine HRDi.out.mono ?_; rintro e w1 ⟨rfl, b1⟩
            have hb1 := hb.trans (b1.mono hb.size)
            clear b1
            go_wp2_with fail
            refine (HGET.out _).mono ?_; rintro e w2 ⟨rfl, b2⟩
            have hb2 := hb1.trans (b2.mono hb1.size)
            go_wp2_with fail
            go_roundw
            case rel => exact ⟨i + 1, by go_num, by omega, ⟨(c1, c2, c3), Lib.hid (by rw [HCN.out, if_neg (fun h => by cases h.1)]), rfl, rfl, rfl⟩, hb2⟩
            case measure => simp [intOf]; omega
          | true =>
            by_cases hgt : c1 < g1
            · have tg : decide (c1 < g1) = true := decide_eq_true hgt
              have tg2 : decide ((c1 : Int) < (g1 : Int)) = true := decide_eq_true (by omega)
              go_wp2_with fail
              refine HRDi.out.mono ?_; rintro e w1 ⟨rfl, b1⟩
              have hb1 := hb.trans (b1.mono hb.size)
              clear b1
              go_wp2_with fail
              refine (HGET.out _).mono ?_; rintro e w2 ⟨rfl, b2⟩
              have hb2 := hb1.trans (b2.mono hb1.size)
              go_wp2_with fail
              go_roundw
              case rel => exact ⟨i + 1, by go_num, by omega, ⟨(g1, g2, true), Lib.hid (by rw [HCN.out, if_pos ⟨trivial, hgt⟩]), rfl, rfl, rfl⟩, hb2⟩
              case measure => simp [intOf]; omega
            · have tg : decide (c1 < g1) = false := decide_eq_false hgt
              have tg2 : decide ((c1 : Int) < (g1 : Int)) = false := decide_eq_false (by omega)
              go_wp2_with fail
              refine HRDi.out.mono ?_; rintro e w1 ⟨rfl, b1⟩
              have hb1 := hb.trans (b1.mono hb.size)
              clear b1
              go_wp2_with fail
              refine (HGET.out _).mono ?_; rintro e w2 ⟨rfl, b2⟩
              have hb2 := hb1.trans (b2.mono hb1.size)
              go_wp2_with fail
              go_roundw
              case rel => exact ⟨i + 1, by go_num, by omega, ⟨(c1, c2, c3), Lib.hid (by rw [HCN.out, if_neg (fun h => hgt h.2)]), rfl, rfl, rfl⟩, hb2⟩
              case measure => simp [intOf]; omega
        · obtain rfl : i = 2 := by omega
          go_wp2_with fail
          exact bodyPost_ret (v := .tuple #[.int .u64 c1, .string ⟨c2.toArray⟩, .bool c3]) (by simp [results, Try.results35, go_sem]) rfl ⟨by rw [← HC.out], hb⟩
end Go.Proofs.Ytfacifhlcaghiaa.Sup
