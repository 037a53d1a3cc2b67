/- Contracts of layer 3 (frame) and its reference. The table of checks is a hypothesis. -/
import Derived.Test.YtjkjcpbhlgjgcaaDoorNumC4
import Derived.Test.YtjkjcpbhlgjgcaaDoorNumBackP
import Derived.Test.YtjkjcpbhlgjgcaaDoorCrcC
namespace Go.Proofs.YtjkjcpbhlgjgcaaDoor.FrameC
open Go Go.RowKit
open Go.Proofs.YtjkjcpbhlgjgcaaDoor.Gen
open Go.Proofs.YtjkjcpbhlgjgcaaDoor.Num
open Go.Proofs.YtjkjcpbhlgjgcaaDoor.NumC
open Go.Proofs.YtjkjcpbhlgjgcaaDoor.CrcC (Tab ofN ofN_lt of_any refOf_any)
set_option linter.unusedVariables false
set_option linter.unusedSimpArgs false
/-- Bytes as a frame; nothing: too many. -/
def fputL (l : List UInt8) : List UInt8 := if 16384 < l.length then [] else text l ++ word (ofN l)
theorem fputL_len (l : List UInt8) : (fputL l).length ≤ 16397 := by
  unfold fputL
  split
  · exact Nat.zero_le _
  · have := text_len l
    rw [List.length_append, word_len]
    omega
set_option maxHeartbeats 2000000 in
theorem fput_any (l : List UInt8) (hl : l.length ≤ 140737488351232) (w : World) (ht : Tab w) : Calls Tryd.prog 8 #[.string ⟨l.toArray⟩] w fun e w' => e = .returned (.string ⟨(fputL l).toArray⟩) ∧ Below w.heap.size w w' := by
  by_cases h : 16384 < l.length
  · rw [show fputL l = [] from if_pos h]
    go_enter Tryd.func8, Tryd.ntmps8
    go_wp2_with fail
    go_ret
    exact ⟨rfl, Below.refl _ _⟩
  · rw [show fputL l = text l ++ word (ofN l) from if_neg h]
    have h1 := text_len l
    have h2 := word_len (ofN l)
    go_enter Tryd.func8, Tryd.ntmps8
    go_wp2_with fail
    refine (text_any ⟨l.toArray⟩ (by rw [size_mk]; omega) _).mono ?_; rintro e w1 ⟨rfl, hb⟩
    go_wp2_with fail
    refine (of_any l (by omega) _ (ht.b hb)).mono ?_; rintro e w2 ⟨rfl, hb2⟩
    replace hb := thenB hb hb2
    go_wp2_with fail
    refine (word_any (ofN l) (ofN_lt l) _).mono ?_; rintro e w3 ⟨rfl, hb3⟩
    replace hb := thenB hb hb3
    go_wp2_with fail
    go_ret
    exact ⟨ret_str (str_app2 _ _), hb⟩
set_option maxHeartbeats 2000000 in
theorem reffput_any (l : List UInt8) (hl : l.length ≤ 140737488351232) (w : World) : Calls Tryd.prog 11 #[.string ⟨l.toArray⟩] w fun e w' => e = .returned (.string ⟨(fputL l).toArray⟩) ∧ Below w.heap.size w w' := by
  by_cases h : 16384 < l.length
  · rw [show fputL l = [] from if_pos h]
    go_enter Tryd.func11, Tryd.ntmps11
    go_wp2_with fail
    go_ret
    exact ⟨rfl, Below.refl _ _⟩
  · rw [show fputL l = text l ++ word (ofN l) from if_neg h]
    have h1 := text_len l
    have h2 := word_len (ofN l)
    go_enter Tryd.func11, Tryd.ntmps11
    go_wp2_with fail
    refine (refText_any ⟨l.toArray⟩ (by rw [size_mk]; omega) _).mono ?_; rintro e w1 ⟨rfl, hb⟩
    go_wp2_with fail
    refine (refOf_any l (by omega) _).mono ?_; rintro e w2 ⟨rfl, hb2⟩
    replace hb := thenB hb hb2
    go_wp2_with fail
    refine (refWord_any (ofN l) (ofN_lt l) _).mono ?_; rintro e w3 ⟨rfl, hb3⟩
    replace hb := thenB hb hb3
    go_wp2_with fail
    go_ret
    exact ⟨ret_str (str_app2 _ _), hb⟩
/-- The first frame of bytes. -/
def R.frame (r : R) : R × List UInt8 :=
  let a := r.text 16384
  let b := a.1.word
  let q := if b.1.err = 0 ∧ b.2 ≠ ofN a.2 then b.1.fail 30 else b.1
  if q.err ≠ 0 then (q, []) else (q, a.2)
theorem frame_if (b : R × Nat) (t : List UInt8) : (b.1.err = 0 ∧ b.2 ≠ ofN t ∧ (let q := if b.1.err = 0 ∧ b.2 ≠ ofN t then b.1.fail 30 else b.1; if q.err ≠ 0 then (q, ([] : List UInt8)) else (q, t)) = (b.1.fail 30, [])) ∨
    (b.1.err = 0 ∧ b.2 = ofN t ∧ (let q := if b.1.err = 0 ∧ b.2 ≠ ofN t then b.1.fail 30 else b.1; if q.err ≠ 0 then (q, ([] : List UInt8)) else (q, t)) = (b.1, t)) ∨
    (b.1.err ≠ 0 ∧ (let q := if b.1.err = 0 ∧ b.2 ≠ ofN t then b.1.fail 30 else b.1; if q.err ≠ 0 then (q, ([] : List UInt8)) else (q, t)) = (b.1, [])) := by
  dsimp only
  by_cases h1 : b.1.err = 0
  · by_cases h2 : b.2 = ofN t
    · exact Or.inr (Or.inl ⟨h1, h2, by simp [h1, h2]⟩)
    · have : (b.1.fail 30).err = 30 := by unfold R.fail; rw [if_pos ⟨h1, by decide⟩]
      exact Or.inl ⟨h1, h2, by simp [h1, h2, this]⟩
  · exact Or.inr (Or.inr ⟨h1, by simp [h1]⟩)
theorem text_snd_len (r : R) (n : Int) (ho : r.ok) : (r.text n).2.length ≤ 65536 := by
  have h1 := take_snd_len (r.int (min n 65536)).1 (r.int (min n 65536)).2
  have h2 := int_le r (min n 65536) ho
  have h3 : (r.text n).2 = ((r.int (min n 65536)).1.take (r.int (min n 65536)).2).2 := rfl
  rw [h3]
  omega
theorem word_lt (r : R) : r.word.2 < 4294967296 := by
  have h1 := take_snd_len r 4
  have h2 : r.word.2 = value (r.take 4).2 := rfl
  have h3 := value_lt (r.take 4).2
  have h4 : 256 ^ (r.take 4).2.length ≤ 256 ^ 4 := Nat.pow_le_pow_right (by decide) h1
  omega
set_option maxHeartbeats 4000000 in
theorem ftake_any (w : World) (b : Nat) (all : List UInt8) (r : R) (h : Src w b all r) (ht : Tab w) (hb0 : b ≠ 0) :
    Calls Tryd.prog 29 #[.pointer (some ⟨b, 0, none⟩)] w fun x w' => x = .returned (.string ⟨(R.frame r).2.toArray⟩) ∧ Src w' b all (R.frame r).1 ∧ w.grownBy w' (some b) := by
  have h1 := Lib.hid (srctext_any w b all r 16384 (by omega) (by omega) h)
  have hd := text_snd_len r 16384 h.ok
  obtain ⟨q, hq⟩ : ∃ q, q = R.frame r := ⟨_, rfl⟩
  rw [← hq]
  unfold R.frame at hq
  generalize r.text 16384 = t at h1 hq hd
  obtain ⟨r1, d⟩ := t
  dsimp only at h1 hq hd
  have h2 := Lib.hid (fun (W : World) (hW : Src W b all r1) => srcword_any W b all r1 hW)
  have hcase := frame_if r1.word d
  dsimp only at hcase
  rw [← hq] at hcase
  clear hq
  have hc4 := word_lt r1
  generalize r1.word = u at h2 hcase hc4
  obtain ⟨r2, c⟩ := u
  dsimp only at h2 hcase hc4
  have HT := Lib.hid (fun (W : World) (hg : w.grownBy W (some b)) => (fun i hi => hg.cell (ht i hi) (by simp; omega) : Tab W))
  go_enter Tryd.func29, Tryd.ntmps29
  go_wp2_with fail
  refine h1.out.mono ?_; rintro e w1 ⟨rfl, hs1, hg1⟩
  go_wp2_with fail
  refine (h2.out _ hs1).mono ?_; rintro e w2 ⟨rfl, hs2, hg2⟩
  replace hg2 := Lib.grownBy_trans hg1 hg2
  clear h1 h2 hs1 hg1
  go_wp2_with fail
  refine (err_any _ b all r2 hs2).mono ?_; rintro e w3 ⟨rfl, rfl⟩
  obtain ⟨c1, c2, rfl⟩ | ⟨c1, c2, rfl⟩ | ⟨c1, rfl⟩ := hcase
  · go_wp2_with fail
    refine (of_any d (by omega) _ (HT.out _ hg2)).mono ?_; rintro e w3 ⟨rfl, hb3⟩
    replace hs2 := hs2.below hb3
    replace hg2 := Lib.grownBy_below hg2 hb3
    have hne : (((c : Nat) : Int) != ((ofN d : Nat) : Int)) = true := by simp; omega
    have hne2 : (((c : Nat) : Int) == ((ofN d : Nat) : Int)) = false := by simp; omega
    have he6 : (r2.fail 30).err = 30 := by unfold R.fail; rw [if_pos ⟨c1, by decide⟩]
    go_wp2_with fail
    refine (wrong_any _ b all r2 30 (by omega) hs2).mono ?_; rintro e w4 ⟨rfl, hs4, hg4⟩
    go_wp2_with fail
    refine (err_any _ b all _ hs4).mono ?_; rintro e w5 ⟨rfl, rfl⟩
    go_wp2_with fail
    go_ret
    exact ⟨rfl, hs4, Lib.grownBy_trans hg2 hg4⟩
  · subst c2
    go_wp2_with fail
    refine (of_any d (by omega) _ (HT.out _ hg2)).mono ?_; rintro e w3 ⟨rfl, hb3⟩
    replace hs2 := hs2.below hb3
    replace hg2 := Lib.grownBy_below hg2 hb3
    go_wp2_with fail
    refine (err_any _ b all _ hs2).mono ?_; rintro e w5 ⟨rfl, rfl⟩
    go_wp2_with fail
    go_ret
    exact ⟨rfl, hs2, hg2⟩
  · have hk := Nat.pos_of_ne_zero c1
    go_wp2_with fail
    refine (err_any _ b all _ hs2).mono ?_; rintro e w5 ⟨rfl, rfl⟩
    go_wp2_with fail
    go_ret
    exact ⟨rfl, hs2, hg2⟩
/-- The bytes of a frame, and what is wrong. -/
def getL (l : List UInt8) : List UInt8 × Nat := if (R.frame ⟨l, 0⟩).1.endE ≠ 0 then ([], (R.frame ⟨l, 0⟩).1.endE) else ((R.frame ⟨l, 0⟩).2, 0)
set_option maxHeartbeats 2000000 in
theorem fget_any (l : List UInt8) (hl : l.length ≤ 140737488351232) (w : World) (ht : Tab w) : Calls Tryd.prog 9 #[.string ⟨l.toArray⟩] w fun e w' => e = .returned (.tuple #[.string ⟨(getL l).1.toArray⟩, .int .i64 (getL l).2]) ∧ Below w.heap.size w w' := by
  have h0 : 0 < w.heap.size := World.block_lt_of_cell? w _ (ht 0 (by omega))
  go_enter Tryd.func9, Tryd.ntmps9
  go_wp2_with fail
  refine (from_any _ l (by omega)).mono ?_; rintro e w1 ⟨rfl, hs, hb⟩
  go_wp2_with fail
  refine (ftake_any _ _ _ _ hs (ht.b hb) (by omega)).mono ?_; rintro e w2 ⟨rfl, hs2, hg2⟩
  replace hb := ownB hb hg2 (Nat.le_refl _)
  have hd : getL l = if (R.frame ⟨l, 0⟩).1.endE ≠ 0 then ([], (R.frame ⟨l, 0⟩).1.endE) else ((R.frame ⟨l, 0⟩).2, 0) := rfl
  generalize R.frame ⟨l, 0⟩ = f at hs2 hd
  obtain ⟨q, t⟩ := f
  dsimp only at hs2 hd
  go_wp2_with fail
  refine (end_any _ _ _ _ hs2).mono ?_; rintro e w3 ⟨rfl, _, hg3⟩
  replace hb := ownB hb hg3 (Nat.le_refl _)
  by_cases hz : q.endE = 0
  · rw [if_neg (fun h => h hz)] at hd
    rw [hz]
    go_wp2_with fail
    go_ret2
    exact ⟨by rw [hd]; rfl, hb⟩
  · rw [if_pos hz] at hd
    have hk := Nat.pos_of_ne_zero hz
    go_wp2_with fail
    go_ret2
    exact ⟨by rw [hd]; rfl, hb⟩
theorem frame_back (l rest : List UInt8) (h : l.length ≤ 16384) : R.frame ⟨fputL l ++ rest, 0⟩ = (⟨rest, 0⟩, l) := by
  have h1 := text_back l 16384 (word (ofN l) ++ rest) (by omega) (by omega)
  have h2 := word_back (ofN l) rest (ofN_lt l)
  unfold R.frame
  rw [show fputL l ++ rest = text l ++ (word (ofN l) ++ rest) by unfold fputL; rw [if_neg (by omega), List.append_assoc], h1]
  dsimp only
  rw [h2]
  simp
theorem get_back (l : List UInt8) (h : l.length ≤ 16384) : getL (fputL l) = (l, 0) := by
  have := frame_back l [] h
  rw [List.append_nil] at this
  unfold getL
  rw [this]
  simp [R.endE]
end Go.Proofs.YtjkjcpbhlgjgcaaDoor.FrameC
