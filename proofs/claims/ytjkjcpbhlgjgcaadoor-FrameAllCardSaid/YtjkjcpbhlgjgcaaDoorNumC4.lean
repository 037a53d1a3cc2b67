/- Contracts of a source of bytes: lists taken. -/
import Derived.Test.YtjkjcpbhlgjgcaaDoorNumNil
import Derived.Test.YtjkjcpbhlgjgcaaDoorOwn
namespace Go.Proofs.YtjkjcpbhlgjgcaaDoor.NumC
open Go Go.RowKit
open Go.Proofs.YtjkjcpbhlgjgcaaDoor.Gen
open Go.Proofs.YtjkjcpbhlgjgcaaDoor.Num
open Go.Proofs.YtjkjcpbhlgjgcaaDoor.Own
set_option linter.unusedVariables false
theorem list_len (l : List Int) : (list l).length ≤ 9 * l.length + 9 := by
  have := listUpto_len l l.length
  rwa [listUpto_all] at this
theorem text_len (l : List UInt8) : (text l).length ≤ l.length + 9 := by
  have := put_len l.length
  unfold text
  rw [List.length_append]
  omega
theorem word_len (n : Nat) : (word n).length = 4 := bigs_length n 4
theorem cut (l : List UInt8) (n : Nat) : (⟨l.toArray⟩ : ByteArray).extract 0 (min (l.length : Int) (n : Int)).toNat = ⟨(l.take n).toArray⟩ := by
  rw [ext]
  congr 2
  rw [List.drop_zero, Nat.sub_zero]
  rw [List.take_eq_take_iff]
  omega
theorem take_err {r : R} (ho : r.ok) (he : r.err ≠ 0) (n : Nat) (hn : 0 < n) : (r.take n).1 = r ∧ (r.take n).2 = [] := by
  have hs := ho he
  unfold R.take
  rw [if_pos (Or.inr (by rw [hs]; simp; omega))]
  exact ⟨fail_after he 2, rfl⟩
theorem int_err {r : R} (ho : r.ok) (he : r.err ≠ 0) (n : Int) : (r.int n).1 = r := by
  obtain ⟨h1, h2⟩ := take_err ho he 1 (by omega)
  have e1 : r.take 1 = (r, []) := Prod.ext h1 h2
  unfold R.int R.num
  rw [e1]
theorem ints_snoc (limit : Int) (k : Nat) : ∀ r : R, r.ints limit (k + 1) = (((r.ints limit k).1.int limit).1, (r.ints limit k).2 ++ [((r.ints limit k).1.int limit).2]) := by
  induction k with
  | zero => intro r; rfl
  | succ k ih =>
    intro r
    rw [R.ints, ih (r.int limit).1]
    conv => rhs; rw [R.ints]
    simp
theorem ints_length (limit : Int) (k : Nat) : ∀ r : R, (r.ints limit k).2.length = k := by
  induction k with
  | zero => intro r; rfl
  | succ k ih => intro r; rw [R.ints]; simp [ih]
theorem ints_stays (limit : Int) (m : Nat) : ∀ r : R, r.ok → r.err ≠ 0 → (r.ints limit m).1 = r := by
  induction m with
  | zero => intro r _ _; rfl
  | succ m ih =>
    intro r ho he
    rw [R.ints]
    dsimp only
    rw [int_err ho he]
    exact ih r ho he
theorem ints_add (limit : Int) (k : Nat) : ∀ (r : R) (m : Nat), (r.ints limit (k + m)).1 = ((r.ints limit k).1.ints limit m).1 := by
  induction k with
  | zero => intro r m; rw [Nat.zero_add]; rfl
  | succ k ih =>
    intro r m
    rw [Nat.add_right_comm, R.ints]
    dsimp only
    rw [ih, R.ints]
theorem grownA {a w w' : World} {row : Option Nat} (h : a.grownBy w row) (hb : Below a.heap.size w w') : a.grownBy w' row :=
  ⟨hb.os.trans h.os, hb.tape.trans h.tape, hb.output.trans h.output, Nat.le_trans h.size hb.size, fun i hi hr => (hb.block i hi).trans (h.block i hi hr)⟩
theorem own_far {w : World} {B b : Nat} {e : TypeId} {size n : Nat} {v : Value} {xs : List Value} (h : w.ownsRow B e size v n xs) (hb : b < B) : some b ≠ v.ownBlock := fun e => by
  have := (h.lt b e.symm).1
  omega
theorem own_grown {w w' : World} {B b : Nat} {e : TypeId} {size n : Nat} {v : Value} {xs : List Value} (h : w.ownsRow B e size v n xs) (hg : w.grownBy w' (some b)) (hb : b < B) : w'.ownsRow B e size v n xs :=
  h.kept hg (Or.inr (fun e => own_far h hb e.symm))
set_option maxHeartbeats 4000000 in
theorem srclist_any (w : World) (b : Nat) (all : List UInt8) (r : R) (many limit : Int) (hm0 : -9223372036854775808 ≤ many) (hm1 : many ≤ 1000000) (hn0 : -9223372036854775808 ≤ limit) (hn1 : limit ≤ 9223372036854775807) (h : Src w b all r) :
    Calls Tryd.prog 63 #[.pointer (some ⟨b, 0, none⟩), .int .i64 many, .int .i64 limit] w fun x w' => ∃ A cap, x = .returned (.slice A (r.list many limit).2.length cap) ∧
      w'.ownsRow w.heap.size 3 1 (.slice A (r.list many limit).2.length cap) (r.list many limit).2.length ((r.list many limit).2.map (.int .i64)) ∧ Src w' b all (r.list many limit).1 ∧ w.grownBy w' (some b) := by
  have hle := int_le r many h.ok
  obtain ⟨n, hn⟩ : ∃ n : Nat, (r.int many).2 = n := ⟨(r.int many).2.toNat, by omega⟩
  have hi := Lib.hid (int_any w b all r many hm0 (by omega) h)
  have hl1 : ((r.int many).1.ints limit n).1.err ≠ 0 → r.list many limit = (((r.int many).1.ints limit n).1, []) := fun he => by
    unfold R.list
    rw [hn, Int.toNat_natCast]
    exact if_pos he
  have hl2 : ((r.int many).1.ints limit n).1.err = 0 → r.list many limit = (r.int many).1.ints limit n := fun he => by
    unfold R.list
    rw [hn, Int.toNat_natCast]
    exact if_neg (by rw [he]; decide)
  rw [hn] at hi hle
  have hok := R.int_ok h.ok many
  generalize (r.int many).1 = r1 at hi hl1 hl2 hok
  generalize r.list many limit = res at hl1 hl2
  have HL1 := Lib.hid hl1
  have HL2 := Lib.hid hl2
  have hb0 := h.lt
  clear hl1 hl2 hn h
  have hn6 : n ≤ 1000000 := by omega
  clear hle
  go_enter Tryd.func63, Tryd.ntmps63
  go_wp2_with fail
  refine hi.out.mono ?_; rintro e w1 ⟨rfl, hs1, hg1⟩
  clear hi
  go_wp2_with fail
  go_loopw [8] (fun s wr => ∃ (k : Nat) (A : Option Addr) (cap : Nat), s = .slice A k cap ∧ k ≤ n ∧ wr.ownsRow w.heap.size 3 1 (.slice A k cap) k ((r1.ints limit k).2.map (.int .i64)) ∧ Src wr b all (r1.ints limit k).1 ∧ w.grownBy wr (some b)) (fun s _ => match s with | .slice _ k _ => n - k | _ => 0)
  case atStart => exact ⟨0, none, 0, rfl, by omega, World.ownsRow_nil _ _ _ _, hs1, hg1⟩
  case round =>
    obtain ⟨k, A, cap, rfl, hk, hown, hs, hg⟩ := hrel
    by_cases hlt : k < n
    · by_cases hz : (r1.ints limit k).1.err = 0
      · have HS := Lib.hid (ints_snoc limit k r1)
        have hok2 := R.ints_ok hok limit k
        generalize r1.ints limit k = q at hown hs HS hz hok2
        obtain ⟨q, l⟩ := q
        dsimp only at hown hs HS hz hok2
        go_wp2_with fail
        refine (err_any _ b all q hs).mono ?_; rintro e w2 ⟨rfl, rfl⟩
        go_wp2_with fail
        refine (int_any _ b all q limit hn0 hn1 hs).mono ?_; rintro e w2 ⟨rfl, hs2, hg2⟩
        have hown2 := (own_grown hown hg2 hb0).alloc (.cells #[.int .i64 (q.int limit).2] 3)
        have hsz : w.heap.size ≤ w2.heap.size := Nat.le_trans hg.size hg2.size
        have hs3 := hs2.grown (World.grownBy_alloc w2 (.cells #[.int .i64 (q.int limit).2] 3) none) (by simp)
        have hg3 := Lib.grownBy_allocR (Lib.grownBy_trans hg hg2) (.cells #[.int .i64 (q.int limit).2] 3)
        go_wp2_with (at_builtin
                     refine wpList_app1 _ rfl _ _ _ rfl w.heap.size 3 (.int .i64 0) 8 Tryd.underlying40 (by kernel_rfl) rfl _ k _ rfl hown2 ⟨w2.heap.size, 0, none⟩ (.int .i64 (q.int limit).2) rfl (by simp) rfl (by omega) (by omega) (by simp; omega) ?_
                     intro A' cap' w4 hown4 hc4 hg4 hbel4 _)
        exact ⟨⟨k + 1, A', cap', rfl, by omega, by rw [HS.out]; simpa using hown4, by rw [HS.out]; exact hs3.grown hg4 (own_far hown2 hb0), grownA hg3 hbel4⟩, by show n - (k + 1) < n - k; omega⟩
      · have hfin : (r1.ints limit n).1 = (r1.ints limit k).1 := by
          have := ints_add limit k r1 (n - k)
          rw [show k + (n - k) = n by omega] at this
          rw [this]
          exact ints_stays limit _ _ (R.ints_ok hok limit k) hz
        have hres := HL1.out (by rw [hfin]; exact hz)
        rw [hfin] at hres
        subst hres
        clear hfin
        have hs0 := hs
        generalize r1.ints limit k = q at hown hs hz
        obtain ⟨q, l⟩ := q
        dsimp only at hown hs hz ⊢
        go_wp2_with fail
        refine (err_any _ b all q hs).mono ?_; rintro e w2 ⟨rfl, rfl⟩
        go_wp2_with fail
        refine (err_any _ b all q hs).mono ?_; rintro e w2 ⟨rfl, rfl⟩
        go_wp2_with fail
        go_ret
        exact ⟨none, 0, rfl, World.ownsRow_nil _ _ _ _, hs0, hg⟩
    · obtain rfl : k = n := by omega
      have hlen := ints_length limit k r1
      by_cases hz : (r1.ints limit k).1.err = 0
      · have hres := HL2.out hz
        rw [← hres] at hown hs hz hlen
        clear hres HL1 HL2
        go_wp2_with fail
        refine (err_any _ b all _ hs).mono ?_; rintro e w2 ⟨rfl, rfl⟩
        go_wp2_with fail
        go_ret
        refine ⟨A, cap, ?_, ?_, hs, hg⟩
        · rw [hlen]; rfl
        · rw [hlen]; exact hown
      · have hres := HL1.out hz
        subst hres
        clear HL1 HL2
        have hs0 := hs
        generalize r1.ints limit k = q at hown hs hz
        obtain ⟨q, l⟩ := q
        dsimp only at hown hs hz ⊢
        go_wp2_with fail
        refine (err_any _ b all q hs).mono ?_; rintro e w2 ⟨rfl, rfl⟩
        go_wp2_with fail
        go_ret
        exact ⟨none, 0, rfl, World.ownsRow_nil _ _ _ _, hs0, hg⟩
end Go.Proofs.YtjkjcpbhlgjgcaaDoor.NumC
