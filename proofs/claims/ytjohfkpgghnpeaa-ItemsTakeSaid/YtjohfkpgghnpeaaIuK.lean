-- packed by pack.py, a program of this claim's repo
import Derived.Test.YtjohfkpgghnpeaaIuB
import Derived.Test.YtjohfkpgghnpeaaIuC
import Derived.Test.YtjohfkpgghnpeaaIuD
import Derived.Test.YtjohfkpgghnpeaaIuE
import Derived.Test.YtjohfkpgghnpeaaIuF
import Derived.Test.YtjohfkpgghnpeaaIuA
import Derived.Test.YtjohfkpgghnpeaaIuG
import Derived.Test.YtjohfkpgghnpeaaIuH
import Derived.Test.YtjohfkpgghnpeaaIuI
import Derived.Test.YtjohfkpgghnpeaaIuJ
section
namespace Go.Proofs.Ytjohfkpgghnpeaa.NumPr
open Go Go.RowKit
open Go.Proofs.Ytjohfkpgghnpeaa.Num
open Go.Proofs.Ytjohfkpgghnpeaa.NumC
open Go.Proofs.Ytjohfkpgghnpeaa.Gv
open Go.Proofs.Ytjohfkpgghnpeaa.PNum
open Go.Proofs.YtjohfkpgghnpeaaW.PrintWords Go.Proofs.YtjohfkpgghnpeaaW.PrintLast Go.Proofs.YtjohfkpgghnpeaaW.PrintMore
set_option linter.unusedVariables false
@[reducible] def bs (l : List UInt8) : ByteArray := ⟨l.toArray⟩
theorem bs_toList (l : List UInt8) : (bs l).toList = l := ByteArray.toList_eq (bs l)
theorem bs_data (l : List UInt8) : (bs l).data.toList = l := rfl
theorem bs_mk (s : ByteArray) : bs s.data.toList = s := mk_list s
theorem bs_size (l : List UInt8) : (bs l).size = l.length := size_mk l
theorem bs_app (l m : List UInt8) : bs l ++ bs m = bs (l ++ m) := str_app2 l m
theorem bs_ext (l : List UInt8) (i j : Nat) : (bs l).extract i j = bs ((l.drop i).take (j - i)) := ext l i j
theorem bs_bt (l : List UInt8) (i : Nat) (h : i < l.length) : bt (bs l) (i : Int) = (l[i].toNat : Int) := by
  unfold bt
  rw [dif_pos (by rw [bs_size]; simpa using h)]
  rfl
def at_ (all : List UInt8) (r : R) : Int := (all.length : Int) - (r.s.length : Int)
structure St (all : List UInt8) (r : R) : Prop where
  suf : r.s <:+ all
  ok : r.ok
  len : all.length ≤ 140737488355328
theorem St.le {all : List UInt8} {r : R} (h : St all r) : r.s.length ≤ all.length := h.suf.length_le
theorem St.start {l : List UInt8} (h : l.length ≤ 140737488355328) : St l ⟨l, 0⟩ := ⟨List.suffix_refl _, fun e => absurd rfl e, h⟩
theorem St.drop {all : List UInt8} {r : R} (h : St all r) : r.s = all.drop (at_ all r).toNat := by
  obtain ⟨p, hp⟩ := h.suf
  have : (at_ all r).toNat = p.length := by unfold at_; rw [← hp]; simp
  rw [this, ← hp, List.drop_left]
theorem St.fail {all : List UInt8} {r : R} (h : St all r) (e : Nat) : St all (r.fail e) := by
  refine ⟨?_, R.fail_ok h.ok e, h.len⟩
  unfold R.fail
  split
  · exact List.nil_suffix
  · exact h.suf
theorem St.take {all : List UInt8} {r : R} (h : St all r) (n : Int) : St all (r.take n).1 := by
  refine ⟨?_, R.take_ok h.ok n, h.len⟩
  unfold R.take
  split
  · exact (h.fail 2).suf
  · exact (List.drop_suffix _ _).trans h.suf
theorem St.num {all : List UInt8} {r : R} (h : St all r) (n : Nat) : St all (r.num n).1 := by
  unfold R.num
  split
  · exact h.take 1
  · split
    · exact (h.take 1).fail 3
    · dsimp only
      split
      · exact (h.take 1).take _
      · split
        · exact ((h.take 1).take _).fail 3
        · exact (h.take 1).take _
theorem St.int {all : List UInt8} {r : R} (h : St all r) (n : Int) : St all (r.int n).1 := h.num _
theorem St.text {all : List UInt8} {r : R} (h : St all r) (n : Int) : St all (r.text n).1 := (h.int _).take _
theorem fail_of {r : R} {e : Nat} (h : r.err = 0) (he : e ≠ 0) : r.fail e = ⟨[], e⟩ := if_pos ⟨h, he⟩
theorem from_eq (s : ByteArray) : num_From.f s = some (s, 0, 0) := rfl
theorem at_start (l : List UInt8) : at_ l ⟨l, 0⟩ = 0 := by show (l.length : Int) - (l.length : Int) = 0; omega
theorem err_eq (all : ByteArray) (a e : Int) : num_Source_Err.f all a e = some (e, all, a, e) := rfl
theorem wrong_eq (all : List UInt8) (r : R) (e : Nat) (he : e ≠ 0) : num_Source_Wrong.f (bs all) (at_ all r) (r.err : Int) (e : Int) = some (bs all, at_ all (r.fail e), ((r.fail e).err : Int)) := by
  unfold num_Source_Wrong.f
  by_cases h : r.err = 0
  · rw [if_pos (by omega), if_neg (by omega), fail_of h he, bs_size]
    unfold at_
    simp
  · rw [if_neg (by omega), fail_after h]
theorem wrong2 (all : List UInt8) (r : R) : num_Source_Wrong.f (bs all) (at_ all r) (r.err : Int) 2 = some (bs all, at_ all (r.fail 2), ((r.fail 2).err : Int)) := wrong_eq all r 2 (by decide)
theorem wrong3 (all : List UInt8) (r : R) : num_Source_Wrong.f (bs all) (at_ all r) (r.err : Int) 3 = some (bs all, at_ all (r.fail 3), ((r.fail 3).err : Int)) := wrong_eq all r 3 (by decide)
theorem left_eq {all : List UInt8} {r : R} (h : St all r) (e : Int) : num_Source_Left.f (bs all) (at_ all r) e = some ((r.s.length : Int), bs all, at_ all r, e) := by
  have h1 := h.le
  have h2 := h.len
  unfold num_Source_Left.f
  rw [bs_size, show (all.length : Int) - at_ all r = r.s.length by unfold at_; omega, show wrap64 (r.s.length : Int) = r.s.length by unfold wrap64; omega]
theorem take_eq {all : List UInt8} {r : R} (h : St all r) (n : Int) : num_Source_Take.f (bs all) (at_ all r) (r.err : Int) n = some (bs (r.take n).2, bs all, at_ all (r.take n).1, ((r.take n).1.err : Int)) := by
  have h1 := h.le
  have h2 := h.len
  unfold num_Source_Take.f
  by_cases hn : n < 0
  · rw [if_pos hn, wrong2]
    have : r.take n = (r.fail 2, []) := if_pos (Or.inl hn)
    rw [this]
    rfl
  · rw [if_neg hn, left_eq h]
    simp only [Option.bind_some]
    by_cases hl : (r.s.length : Int) < n
    · rw [if_pos hl, wrong2]
      have : r.take n = (r.fail 2, []) := if_pos (Or.inr hl)
      rw [this]
      rfl
    · have hw : wrap64 (at_ all r + n) = at_ all r + n := by unfold wrap64 at_; omega
      have ha : 0 ≤ at_ all r := by unfold at_; omega
      have ht : r.take n = (⟨r.s.drop n.toNat, r.err⟩, r.s.take n.toNat) := if_neg (by omega)
      rw [if_neg hl, hw, if_pos ha, if_pos (by omega), if_pos (by rw [bs_size]; unfold at_; omega), ht, bs_ext]
      have hd : (all.drop (at_ all r).toNat).take ((at_ all r + n).toNat - (at_ all r).toNat) = r.s.take n.toNat := by
        rw [← h.drop, show (at_ all r + n).toNat - (at_ all r).toNat = n.toNat by omega]
      rw [hd]
      have hat : at_ all ⟨r.s.drop n.toNat, r.err⟩ = at_ all r + n := by
        unfold at_
        rw [List.length_drop]
        omega
      rw [hat]
theorem width_loop (f : Nat) : ∀ (k n : Nat) (c : Nat), f < k → n < 256 ^ f → c + f ≤ 100 → num_width.l0 k (n : Int) (c : Int) = some ((c + widthF f n : Nat) : Int) := by
  induction f with
  | zero =>
    intro k n c hk hn _
    obtain ⟨k, rfl⟩ : ∃ m, k = m + 1 := ⟨k - 1, by omega⟩
    have : n = 0 := by simpa using hn
    subst this
    simp only [num_width.l0]
    rw [if_neg (by omega)]
    rfl
  | succ f ih =>
    intro k n c hk hn hc
    obtain ⟨k, rfl⟩ : ∃ m, k = m + 1 := ⟨k - 1, by omega⟩
    simp only [num_width.l0]
    by_cases h0 : n = 0
    · subst h0
      rw [if_neg (by omega)]
      simp [widthF]
    · rw [if_pos (by omega), show (n : Int) / 256 = ((n / 256 : Nat) : Int) by omega, show wrap64 ((c : Int) + 1) = ((c + 1 : Nat) : Int) by unfold wrap64; omega,
        ih k (n / 256) (c + 1) (by omega) (by rw [Nat.pow_succ] at hn; exact Nat.div_lt_of_lt_mul (by omega)) (by omega), widthF, if_neg h0]
      congr 2
      omega
theorem width_eq (k n : Nat) (hk : 8 < k) (hn : n < 18446744073709551616) : num_width.f k (n : Int) = some ((width n : Nat) : Int) := by
  unfold num_width.f
  have := width_loop 8 k n 0 hk (by omega) (by omega)
  rw [Nat.zero_add] at this
  exact this
theorem big_eq (l : List UInt8) (h : l.length ≤ 8) : num_big.f (bs l) = some ((value l : Nat) : Int) := by
  unfold num_big.f
  rw [if_pos (by rw [bs_size]; exact h)]
theorem value_lt64 (l : List UInt8) (h : l.length ≤ 8) : value l < 18446744073709551616 := by
  have := value_lt l
  have h2 : 256 ^ l.length ≤ 256 ^ 8 := Nat.pow_le_pow_right (by decide) h
  omega
theorem snum_eq {all : List UInt8} {r : R} (h : St all r) (k : Nat) (hk : 8 < k) (m : Nat) : num_Source_Num.f k (bs all) (at_ all r) (r.err : Int) (m : Int) = some (((r.num m).2 : Int), bs all, at_ all (r.num m).1, ((r.num m).1.err : Int)) := by
  have hs := num_split (m := m) h.ok
  have ht := h.take 1
  unfold num_Source_Num.f
  rw [take_eq h]
  simp only [Option.bind_some]
  generalize r.take 1 = t at hs ht
  obtain ⟨r1, l1⟩ := t
  dsimp only at hs ht ⊢
  rw [bs_toList]
  rcases hs with ⟨rfl, e⟩ | ⟨c, rfl, hs⟩
  · rw [if_pos rfl, e]
    rfl
  · have hc := UInt8.toNat_lt c
    have hb : bt (bs [c]) 0 = (c.toNat : Int) := bs_bt [c] 0 (by simp)
    have hw : wrap64 (c.toNat : Int) = c.toNat := by unfold wrap64; omega
    rw [if_neg (by simp), if_pos (by rw [bs_size]; simp), hb, hw]
    rcases hs with ⟨h8, e⟩ | ⟨h8, hs⟩
    · rw [if_pos (by omega), wrong3, e]
      rfl
    · rw [if_neg (by omega), take_eq ht]
      have ht2 := ht.take c.toNat
      have hl2 := take_snd_len r1 c.toNat
      simp only [Option.bind_some]
      generalize r1.take (c.toNat : Nat) = t2 at hs ht2 hl2
      obtain ⟨r2, l2⟩ := t2
      dsimp only at hs ht2 hl2 ⊢
      rw [big_eq l2 (by omega)]
      simp only [Option.bind_some]
      rw [width_eq k _ hk (value_lt64 l2 (by omega))]
      simp only [Option.bind_some]
      rcases hs with ⟨hl, ⟨hw1, hv, e⟩ | ⟨hn, e⟩⟩ | ⟨rfl, hc0, hf, e⟩
      · rw [if_pos (by omega), if_neg (by omega), e]
      · rw [e]
        by_cases hw1 : width (value l2) = c.toNat
        · rw [if_pos (by omega), if_pos (by omega), wrong3]
          rfl
        · rw [if_neg (by omega), wrong3]
          rfl
      · rw [e]
        have hv0 : width (value ([] : List UInt8)) = 0 := rfl
        rw [if_neg (by omega), wrong3, hf]
        rfl
theorem sint_eq {all : List UInt8} {r : R} (h : St all r) (k : Nat) (hk : 8 < k) (m : Int) (hm : m ≤ 9223372036854775807) : num_Source_Int.f k (bs all) (at_ all r) (r.err : Int) m = some ((r.int m).2, bs all, at_ all (r.int m).1, ((r.int m).1.err : Int)) := by
  have hle := int_le r m h.ok
  unfold num_Source_Int.f
  have e : IntKind.u64.wrap (mx m 0) = (((max m 0).toNat : Nat) : Int) := by
    rw [IntKind.wrap_u64]
    unfold mx
    split <;> omega
  rw [e, snum_eq h k hk]
  simp only [Option.bind_some]
  unfold R.int at hle ⊢
  rw [show wrap64 ((r.num (max m 0).toNat).2 : Int) = ((r.num (max m 0).toNat).2 : Int) by unfold wrap64; omega]
theorem mn_eq (a b : Int) : mn a b = min a b := by unfold mn; split <;> omega
theorem stext_eq {all : List UInt8} {r : R} (h : St all r) (k : Nat) (hk : 8 < k) (m : Int) : num_Source_Text.f k (bs all) (at_ all r) (r.err : Int) m = some (bs (r.text m).2, bs all, at_ all (r.text m).1, ((r.text m).1.err : Int)) := by
  unfold num_Source_Text.f
  rw [mn_eq, sint_eq h k hk _ (by omega)]
  simp only [Option.bind_some]
  rw [take_eq (h.int _)]
  rfl
theorem rfail_eq (r : R) (e : Nat) (he : e ≠ 0) : tarnref01_R_Fail.f (bs r.s) (r.err : Int) (e : Int) = some (bs (r.fail e).s, ((r.fail e).err : Int)) := by
  unfold tarnref01_R_Fail.f
  by_cases h : r.err = 0
  · rw [if_pos (by omega), if_neg (by omega), fail_of h he]
  · rw [if_neg (by omega), fail_after h]
theorem rfail2 (r : R) : tarnref01_R_Fail.f (bs r.s) (r.err : Int) 2 = some (bs (r.fail 2).s, ((r.fail 2).err : Int)) := rfail_eq r 2 (by decide)
theorem rfail3 (r : R) : tarnref01_R_Fail.f (bs r.s) (r.err : Int) 3 = some (bs (r.fail 3).s, ((r.fail 3).err : Int)) := rfail_eq r 3 (by decide)
theorem rtake_eq (r : R) (n : Int) : tarnref01_R_Take.f (bs r.s) (r.err : Int) n = some (bs (r.take n).1.s, ((r.take n).1.err : Int), bs (r.take n).2) := by
  unfold tarnref01_R_Take.f
  by_cases hn : n < 0
  · have : r.take n = (r.fail 2, []) := if_pos (Or.inl hn)
    rw [if_pos hn, rfail2, this]
    rfl
  · by_cases hl : (r.s.length : Int) < n
    · have : r.take n = (r.fail 2, []) := if_pos (Or.inr hl)
      rw [if_neg hn, if_pos (by rw [bs_size]; exact hl), rfail2, this]
      rfl
    · have ht : r.take n = (⟨r.s.drop n.toNat, r.err⟩, r.s.take n.toNat) := if_neg (by omega)
      rw [if_neg hn, if_neg (by rw [bs_size]; omega), if_pos (by omega), if_pos (by rw [bs_size]; omega), ht, bs_ext, bs_ext]
      rw [List.take_of_length_le (by rw [List.length_drop, bs_size]; omega), List.drop_zero, Nat.sub_zero]
theorem value_take' (l : List UInt8) (k : Nat) (hk : k < l.length) : value (l.take (k + 1)) = value (l.take k) * 256 + l[k].toNat := by
  rw [List.take_succ_eq_append_getElem hk, value_snoc]
theorem value_loop (l : List UInt8) (hl : l.length ≤ 8) : ∀ (d j k : Nat), j + d = l.length → d < k → tarnref01_value.l0 k (bs l) ((value (l.take j) : Nat) : Int) (j : Int) = some ((value l : Nat) : Int) := by
  intro d
  induction d with
  | zero =>
    intro j k hj hk
    obtain ⟨k, rfl⟩ : ∃ m, k = m + 1 := ⟨k - 1, by omega⟩
    simp only [tarnref01_value.l0]
    rw [if_neg (by rw [bs_size]; omega), List.take_of_length_le (by omega)]
  | succ d ih =>
    intro j k hj hk
    obtain ⟨k, rfl⟩ : ∃ m, k = m + 1 := ⟨k - 1, by omega⟩
    simp only [tarnref01_value.l0]
    have hv := value_take' l j (by omega)
    have hb : l[j].toNat < 256 := UInt8.toNat_lt l[j]
    have hlt := value_lt64 (l.take (j + 1)) (by rw [List.length_take]; omega)
    rw [if_pos (by rw [bs_size]; omega), if_pos (by omega), bs_bt l j (by omega)]
    have e1 : IntKind.u64.wrap (((value (l.take j) : Nat) : Int) * 256) = ((value (l.take j) * 256 : Nat) : Int) := by rw [IntKind.wrap_u64]; omega
    have e2 : IntKind.u64.wrap ((l[j].toNat : Int)) = (l[j].toNat : Int) := by rw [IntKind.wrap_u64]; omega
    have e3 : IntKind.u64.wrap (((value (l.take j) * 256 : Nat) : Int) + (l[j].toNat : Int)) = ((value (l.take (j + 1)) : Nat) : Int) := by rw [IntKind.wrap_u64]; omega
    rw [e1, e2, e3, show wrap64 ((j : Int) + 1) = ((j + 1 : Nat) : Int) by unfold wrap64; omega]
    exact ih (j + 1) k (by omega) (by omega)
theorem value_eq (l : List UInt8) (hl : l.length ≤ 8) (k : Nat) (hk : 8 < k) : tarnref01_value.f k (bs l) = some ((value l : Nat) : Int) := value_loop l hl l.length 0 k (by omega) (by omega)
theorem rnum_eq {r : R} (ho : r.ok) (k : Nat) (hk : 9 < k) (m : Nat) : tarnref01_R_Num.f k (bs r.s) (r.err : Int) (m : Int) = some (bs (r.num m).1.s, ((r.num m).1.err : Int), ((r.num m).2 : Int)) := by
  obtain ⟨k, rfl⟩ : ∃ q, k = q + 1 := ⟨k - 1, by omega⟩
  have hs := num_split (m := m) ho
  have ho1 := R.take_ok ho 1
  unfold tarnref01_R_Num.f
  rw [rtake_eq]
  simp only [Option.bind_some]
  have hrn : ∀ b : UInt8, ∀ q : R, r.take 1 = (q, [b]) → ¬ 8 < b.toNat → (q.take b.toNat).1.err ≠ 0 → r.num m = ((q.take b.toNat).1, 0) := fun b q e h8 he => by
    unfold R.num
    rw [e]
    dsimp only
    rw [if_neg h8, if_pos he]
  generalize r.take 1 = t at hs ho1 hrn
  obtain ⟨r1, l1⟩ := t
  dsimp only at hs ho1 hrn ⊢
  rw [bs_toList]
  rcases hs with ⟨rfl, e⟩ | ⟨c, rfl, hs⟩
  · rw [if_pos rfl, e]
    rfl
  · have hc := UInt8.toNat_lt c
    have hb : bt (bs [c]) 0 = (c.toNat : Int) := bs_bt [c] 0 (by simp)
    have hw : wrap64 (c.toNat : Int) = c.toNat := by unfold wrap64; omega
    rw [if_neg (by simp), if_pos (by rw [bs_size]; simp), hb, hw]
    rcases hs with ⟨h8, e⟩ | ⟨h8, hs⟩
    · rw [if_pos (by omega), rfail3, e]
      rfl
    · have hrn := hrn c r1 rfl (by omega)
      rw [if_neg (by omega), rtake_eq]
      have hl2 := take_snd_len r1 c.toNat
      simp only [Option.bind_some]
      generalize r1.take (c.toNat : Nat) = t2 at hs hl2 hrn
      obtain ⟨r2, l2⟩ := t2
      dsimp only at hs hl2 hrn ⊢
      by_cases he : r2.err = 0
      · rw [if_pos (by omega), bs_toList]
        have hj1 : ∀ x : List UInt8, x.length ≤ 8 → value x ≤ m → tarnref01_R_Num.j0 (k + 1) (bs x) (decide (((value x : Nat) : Int) > (m : Int))) (bs r2.s) (r2.err : Int) = some (bs r2.s, (r2.err : Int), ((value x : Nat) : Int)) := fun x hx hv => by
          simp only [tarnref01_R_Num.j0]
          rw [if_neg (by simp; omega), value_eq x hx k (by omega)]
          rfl
        have hj2 : ∀ (x : List UInt8) (b : Bool), b = true → tarnref01_R_Num.j0 (k + 1) (bs x) b (bs r2.s) (r2.err : Int) = some (bs (r2.fail 3).s, ((r2.fail 3).err : Int), 0) := fun x b hb => by
          simp only [tarnref01_R_Num.j0]
          rw [if_pos hb, rfail3]
          rfl
        have hl8 : l2.length ≤ 8 := by omega
        by_cases hn : l2 = []
        · subst hn
          rw [if_pos rfl, value_eq [] (by simp) _ (by omega)]
          simp only [Option.bind_some]
          have hv0 : width (value ([] : List UInt8)) = 0 := rfl
          have hv1 : value ([] : List UInt8) = 0 := rfl
          rcases hs with ⟨hl, ⟨hw1, hv, e⟩ | ⟨hn, e⟩⟩ | ⟨_, hc0, hf, e⟩
          · rw [hj1 [] (by simp) hv, e]
          · simp at hl
            exact absurd ⟨by omega, by omega⟩ hn
          · rw [fail_of he (by decide)] at hf
            rw [← hf] at he
            cases he
        · rw [if_neg hn, if_pos (by rw [bs_size]; have := List.length_pos_iff.2 hn; omega)]
          obtain ⟨b, t, rfl⟩ : ∃ b t, l2 = b :: t := by
            cases l2 with
            | nil => exact absurd rfl hn
            | cons b t => exact ⟨b, t, rfl⟩
          have hbb : bt (bs (b :: t)) 0 = (b.toNat : Int) := bs_bt (b :: t) 0 (by simp)
          have hwv := width_value (b :: t) hl8
          rw [hbb]
          by_cases hb0 : b.toNat = 0
          · have hz : b = 0 := UInt8.toNat_inj.1 (by simpa using hb0)
            subst hz
            rw [if_pos (by omega), hj2 _ _ rfl]
            have hnw : ¬ width (value (0 :: t)) = (0 :: t).length := fun h => (hwv.1 h) ⟨t, rfl⟩
            rcases hs with ⟨hl, ⟨hw1, hv, e⟩ | ⟨hn, e⟩⟩ | ⟨h0, _⟩
            · exact absurd (by rw [hw1, hl]) hnw
            · rw [e]
              rfl
            · cases h0
          · have hw1 : width (value (b :: t)) = (b :: t).length := hwv.2 (fun ⟨t', e⟩ => by
              injection e with e1 _
              rw [e1] at hb0
              exact hb0 rfl)
            rw [if_neg (by omega), value_eq _ hl8 _ (by omega)]
            simp only [Option.bind_some]
            rcases hs with ⟨hl, ⟨_, hv, e⟩ | ⟨hn, e⟩⟩ | ⟨h0, _⟩
            · rw [hj1 _ hl8 hv, e]
            · have hv : ¬ value (b :: t) ≤ m := fun hv => hn ⟨by rw [hw1, hl], hv⟩
              rw [hj2 _ _ (by simp; omega), e]
              rfl
            · cases h0
      · rw [if_neg (by omega), hrn he]
        rfl
theorem rint_eq {r : R} (ho : r.ok) (k : Nat) (hk : 9 < k) (m : Int) (hm : m ≤ 9223372036854775807) : tarnref01_R_Int.f k (bs r.s) (r.err : Int) m = some (bs (r.int m).1.s, ((r.int m).1.err : Int), (r.int m).2) := by
  have hle := int_le r m ho
  unfold tarnref01_R_Int.f
  unfold R.int at hle ⊢
  by_cases h : m > 0
  · rw [if_pos h, show IntKind.u64.wrap m = (((max m 0).toNat : Nat) : Int) by rw [IntKind.wrap_u64]; omega, rnum_eq ho k hk]
    simp only [Option.bind_some]
    rw [show wrap64 ((r.num (max m 0).toNat).2 : Int) = ((r.num (max m 0).toNat).2 : Int) by unfold wrap64; omega]
  · have e0 : (max m 0).toNat = 0 := by omega
    rw [e0] at hle ⊢
    have := rnum_eq ho k hk 0
    rw [if_neg h, show (0 : Int) = ((0 : Nat) : Int) from rfl, this]
    simp only [Option.bind_some]
    rw [show wrap64 ((r.num 0).2 : Int) = ((r.num 0).2 : Int) by unfold wrap64; omega]
theorem rtext_eq {r : R} (ho : r.ok) (k : Nat) (hk : 9 < k) (m : Int) : tarnref01_R_Text.f k (bs r.s) (r.err : Int) m = some (bs (r.text m).1.s, ((r.text m).1.err : Int), bs (r.text m).2) := by
  unfold tarnref01_R_Text.f
  rw [mn_eq, rint_eq ho k hk _ (by omega)]
  simp only [Option.bind_some]
  rw [rtake_eq]
  rfl
end Go.Proofs.Ytjohfkpgghnpeaa.NumPr
end
