/- The printed functions of layer 3 told in the plain law's words: a frame put, taken, frames one behind the other. -/
import Derived.Test.YtjkjcpbhlgjgcaaDoorPFrx
import Derived.Test.YtjkjcpbhlgjgcaaDoorNumPr
import Derived.Test.YtjkjcpbhlgjgcaaDoorFrameC
namespace Go.Proofs.YtjkjcpbhlgjgcaaDoor.FramePr
open Go Go.RowKit
open Go.Proofs.YtjkjcpbhlgjgcaaDoor.Num
open Go.Proofs.YtjkjcpbhlgjgcaaDoor.NumC
open Go.Proofs.YtjkjcpbhlgjgcaaDoor.CrcC (ofN ofN_lt)
open Go.Proofs.YtjkjcpbhlgjgcaaDoor.FrameC (fputL frame_if frame_back get_back fputL_len text_snd_len word_lt)
open Go.Proofs.YtjkjcpbhlgjgcaaDoor.NumPr
open Go.Proofs.YtjkjcpbhlgjgcaaDoor.Gv
open Go.Proofs.YtjkjcpbhlgjgcaaDoor.PNum
open Go.Proofs.YtjkjcpbhlgjgcaaDoor.PFr
open Go.Proofs.YtjkjcpbhlgjgcaaDoorW.PrintWords Go.Proofs.YtjkjcpbhlgjgcaaDoorW.PrintLast Go.Proofs.YtjkjcpbhlgjgcaaDoorW.PrintMore
set_option linter.unusedVariables false
abbrev frame := FrameC.R.frame
theorem of_eq (l : List UInt8) (h : l.length ≤ 140737488355328) : crc_Of.f (bs l) = some ((ofN l : Nat) : Int) := by
  unfold crc_Of.f
  rw [if_pos (by rw [bs_size]; exact h)]
theorem rof_eq (l : List UInt8) (h : l.length ≤ 140737488355328) : Gv.tarnref02_Of.f (bs l) = some ((ofN l : Nat) : Int) := by
  unfold Gv.tarnref02_Of.f
  rw [if_pos (by rw [bs_size]; exact h)]
theorem text_eq (l : List UInt8) (h : l.length ≤ 140737488351232) : num_Text.f (bs l) = some (bs (text l)) := by
  unfold num_Text.f
  rw [if_pos (by rw [bs_size]; exact h)]
theorem rtx_eq (l : List UInt8) (h : l.length ≤ 140737488351232) : tarnref01_Text.f (bs l) = some (bs (text l)) := by
  unfold tarnref01_Text.f
  rw [if_pos (by rw [bs_size]; exact h)]
theorem word_eq (n : Nat) (h : n < 4294967296) : num_Word.f (n : Int) = some (bs (word n)) := by
  unfold num_Word.f
  rw [if_pos (by omega), Int.toNat_natCast]
theorem rwd_eq (n : Nat) (h : n < 4294967296) : tarnref01_Word.f (n : Int) = some (bs (word n)) := by
  unfold tarnref01_Word.f
  rw [if_pos (by omega), Int.toNat_natCast]
theorem tlen (l : List UInt8) : (text l).length ≤ l.length + 9 := by
  have := put_len l.length
  unfold text
  rw [List.length_append]
  omega
theorem fput_eq (l : List UInt8) : frame_Put.f (bs l) = some (bs (fputL l)) := by
  by_cases h : 16384 < l.length
  · unfold frame_Put.f fputL
    rw [bs_size, if_pos (by omega), if_pos h]
  · have h1 := tlen l
    have h2 : (word (ofN l)).length = 4 := bigs_length _ 4
    have e : fputL l = text l ++ word (ofN l) := if_neg h
    rw [e]
    unfold frame_Put.f
    rw [bs_size, if_neg (by omega), text_eq l (by omega), Option.bind_some, of_eq l (by omega), Option.bind_some, word_eq _ (ofN_lt l), Option.bind_some, if_pos (by rw [bs_size, bs_size]; omega), bs_app]
theorem rfput_eq (l : List UInt8) : tarnref03_Put.f (bs l) = some (bs (fputL l)) := by
  by_cases h : 16384 < l.length
  · unfold tarnref03_Put.f fputL
    rw [bs_size, if_pos (by omega), if_pos h]
  · have h1 := tlen l
    have h2 : (word (ofN l)).length = 4 := bigs_length _ 4
    have e : fputL l = text l ++ word (ofN l) := if_neg h
    rw [e]
    unfold tarnref03_Put.f
    rw [bs_size, if_neg (by omega), rtx_eq l (by omega), Option.bind_some, rof_eq l (by omega), Option.bind_some, rwd_eq _ (ofN_lt l), Option.bind_some, if_pos (by rw [bs_size, bs_size]; omega), bs_app]
theorem fputL_len2 (l : List UInt8) : (fputL l).length ≤ l.length + 13 := by
  unfold fputL
  split
  · exact Nat.zero_le _
  · have h1 := tlen l
    have h2 : (word (ofN l)).length = 4 := bigs_length _ 4
    rw [List.length_append]
    omega
theorem St.frame {all : List UInt8} {r : R} (h : St all r) : St all (frame r).1 := by
  have h1 := (h.text 16384).word
  have h2 := frame_if (r.text 16384).1.word (r.text 16384).2
  show St all (FrameC.R.frame r).1
  unfold FrameC.R.frame
  rcases h2 with ⟨_, _, e⟩ | ⟨_, _, e⟩ | ⟨_, e⟩
  · dsimp only at e ⊢
    rw [e]
    exact h1.fail 30
  · dsimp only at e ⊢
    rw [e]
    exact h1
  · dsimp only at e ⊢
    rw [e]
    exact h1
theorem ftake_eq {all : List UInt8} {r : R} (h : St all r) (k : Nat) (hk : 20 < k) : frame_take.f k (bs all) (at_ all r) (r.err : Int) = some (bs (frame r).2, bs all, at_ all (frame r).1, ((frame r).1.err : Int)) := by
  obtain ⟨k, rfl⟩ : ∃ q, k = q + 1 := ⟨k - 1, by omega⟩
  have hd := text_snd_len r 16384 h.ok
  have h1 := h.text 16384
  show _ = some (bs (FrameC.R.frame r).2, bs all, at_ all (FrameC.R.frame r).1, ((FrameC.R.frame r).1.err : Int))
  unfold frame_take.f FrameC.R.frame
  rw [stext_eq h _ (by omega)]
  simp only [Option.bind_some]
  rw [sword_eq h1]
  simp only [Option.bind_some, err_eq]
  have hc := frame_if (r.text 16384).1.word (r.text 16384).2
  have hw := word_lt (r.text 16384).1
  have hol := ofN_lt (r.text 16384).2
  dsimp only at hc ⊢
  generalize (r.text 16384).1.word = u at hc hw
  generalize (r.text 16384).2 = d at hc hd hol
  obtain ⟨r2, c⟩ := u
  dsimp only at hc hw ⊢
  rcases hc with ⟨c1, c2, e⟩ | ⟨c1, c2, e⟩ | ⟨c1, e⟩
  · rw [e, if_pos (by omega), of_eq d (by omega)]
    simp only [Option.bind_some, frame_take.j0]
    rw [if_pos (by simp; omega), wrong30]
    simp only [Option.bind_some, err_eq]
    rw [if_neg (by rw [fail_of c1 (by decide)]; decide)]
  · rw [e, if_pos (by omega), of_eq d (by omega)]
    simp only [Option.bind_some, frame_take.j0]
    rw [if_neg (by simp; omega)]
    simp only [Option.bind_some, err_eq]
    rw [if_pos (by omega)]
  · rw [e, if_neg (by omega)]
    simp only [frame_take.j0]
    rw [if_neg (by simp)]
    simp only [Option.bind_some, err_eq]
    rw [if_neg (by omega)]
theorem rftake_eq {r : R} (ho : r.ok) (k : Nat) (hk : 20 < k) : PFr.tarnref03_Take.f k (bs r.s) (r.err : Int) = some (bs (frame r).1.s, ((frame r).1.err : Int), bs (frame r).2) := by
  obtain ⟨k, rfl⟩ : ∃ q, k = q + 1 := ⟨k - 1, by omega⟩
  have hd := text_snd_len r 16384 ho
  have h1 := R.text_ok ho 16384
  show _ = some (bs (FrameC.R.frame r).1.s, ((FrameC.R.frame r).1.err : Int), bs (FrameC.R.frame r).2)
  unfold PFr.tarnref03_Take.f FrameC.R.frame
  rw [rtext_eq ho _ (by omega)]
  simp only [Option.bind_some]
  rw [rword_eq _ _ (by omega)]
  simp only [Option.bind_some]
  have hc := frame_if (r.text 16384).1.word (r.text 16384).2
  have hw := word_lt (r.text 16384).1
  have hol := ofN_lt (r.text 16384).2
  dsimp only at hc ⊢
  generalize (r.text 16384).1.word = u at hc hw
  generalize (r.text 16384).2 = d at hc hd hol
  obtain ⟨r2, c⟩ := u
  dsimp only at hc hw ⊢
  rcases hc with ⟨c1, c2, e⟩ | ⟨c1, c2, e⟩ | ⟨c1, e⟩
  · rw [e, if_pos (by omega), rof_eq d (by omega)]
    simp only [Option.bind_some, PFr.tarnref03_Take.j0]
    rw [if_pos (by simp; omega), rfail30]
    simp only [Option.bind_some]
    rw [if_neg (by rw [fail_of c1 (by decide)]; decide)]
  · rw [e, if_pos (by omega), rof_eq d (by omega)]
    simp only [Option.bind_some, PFr.tarnref03_Take.j0]
    rw [if_neg (by simp; omega), if_pos (by omega)]
  · rw [e, if_neg (by omega)]
    simp only [PFr.tarnref03_Take.j0]
    rw [if_neg (by simp), if_neg (by omega)]
theorem fget_eq (l : List UInt8) (h : l.length ≤ 140737488355328) (k : Nat) (hk : 20 < k) : frame_Get.f k (bs l) = some (bs (FrameC.getL l).1, ((FrameC.getL l).2 : Int)) := by
  have h0 := St.start h
  have hf := ftake_eq h0 k hk
  rw [at_start] at hf
  have hf' : frame_take.f k (bs l) 0 0 = _ := hf
  obtain ⟨q, hq, _⟩ := send_eq (St.frame h0)
  unfold frame_Get.f
  rw [from_eq, Option.bind_some, hf', Option.bind_some, hq, Option.bind_some]
  have hg : FrameC.getL l = if (frame ⟨l, 0⟩).1.endE ≠ 0 then ([], (frame ⟨l, 0⟩).1.endE) else ((frame ⟨l, 0⟩).2, 0) := rfl
  generalize frame ⟨l, 0⟩ = fr at hg
  rw [hg]
  by_cases he : fr.1.endE = 0
  · rw [if_pos (by rw [he]; rfl), if_neg (fun z => z he)]
    rfl
  · rw [if_neg (by intro z; exact he (by have : ((fr.1.endE : Nat) : Int) = 0 := z; omega)), if_pos he]
/-! ### frames one behind the other -/
theorem fail_sle (r : R) (e : Nat) : (r.fail e).s.length ≤ r.s.length := by
  unfold R.fail
  split <;> simp
theorem take_sle (r : R) (n : Int) : (r.take n).1.s.length ≤ r.s.length := by
  by_cases h : n < 0 ∨ (r.s.length : Int) < n
  · rw [show r.take n = (r.fail 2, []) from if_pos h]
    exact fail_sle r 2
  · rw [show r.take n = (⟨r.s.drop n.toNat, r.err⟩, r.s.take n.toNat) from if_neg h]
    simp
theorem num_sle (r : R) (m : Nat) : (r.num m).1.s.length ≤ (r.take 1).1.s.length := by
  unfold R.num
  split
  · exact Nat.le_refl _
  · split
    · exact fail_sle _ _
    · dsimp only
      split
      · exact take_sle _ _
      · split
        · exact Nat.le_trans (fail_sle _ _) (take_sle _ _)
        · exact take_sle _ _
/-- A number that is taken well is of bytes. -/
theorem num_shorter (r : R) (m : Nat) (h0 : r.err = 0) (he : (r.num m).1.err = 0) : (r.num m).1.s.length < r.s.length := by
  have h1 := num_sle r m
  by_cases hs : r.s = []
  · exfalso
    have e : r.take 1 = (r.fail 2, []) := if_pos (Or.inr (by rw [hs]; simp))
    have e2 : r.num m = (r.fail 2, 0) := by
      unfold R.num
      rw [e]
    rw [e2, fail_of h0 (by decide)] at he
    cases he
  · have hp := List.length_pos_iff.2 hs
    have e : r.take 1 = (⟨r.s.drop (1 : Int).toNat, r.err⟩, r.s.take (1 : Int).toNat) := if_neg (by omega)
    rw [e] at h1
    have h2 : (1 : Int).toNat = 1 := rfl
    rw [h2] at h1
    simp only [List.length_drop] at h1
    omega
theorem take_err_of (q : R) (m : Int) (h : (q.take m).1.err = 0) : q.err = 0 := by
  by_cases hc : m < 0 ∨ (q.s.length : Int) < m
  · rw [show q.take m = (q.fail 2, []) from if_pos hc] at h
    unfold R.fail at h
    split at h
    · cases h
    · rename_i hq
      exact absurd ⟨h, by decide⟩ hq
  · rw [show q.take m = (⟨q.s.drop m.toNat, q.err⟩, q.s.take m.toNat) from if_neg hc] at h
    exact h
theorem word_sle (r : R) : r.word.1.s.length ≤ r.s.length := take_sle r 4
theorem text_shorter (r : R) (n : Int) (h0 : r.err = 0) (he : (r.text n).1.err = 0) : (r.text n).1.s.length < r.s.length := by
  have h1 := take_err_of _ _ he
  have h2 := take_sle (r.int (min n 65536)).1 (r.int (min n 65536)).2
  have h3 := num_shorter r _ h0 h1
  have e : (r.text n).1 = ((r.int (min n 65536)).1.take (r.int (min n 65536)).2).1 := rfl
  rw [e]
  exact Nat.lt_of_le_of_lt h2 h3
theorem frame_shorter (r : R) (h0 : r.err = 0) (he : (frame r).1.err = 0) : (frame r).1.s.length < r.s.length := by
  have hd : FrameC.R.frame r = (let a := r.text 16384; let b := a.1.word; let q := if b.1.err = 0 ∧ b.2 ≠ ofN a.2 then b.1.fail 30 else b.1; if q.err ≠ 0 then (q, []) else (q, a.2)) := rfl
  have h2 := frame_if (r.text 16384).1.word (r.text 16384).2
  dsimp only at h2 hd
  have fin : (r.text 16384).1.word.1.err = 0 → (r.text 16384).1.word.1.s.length < r.s.length := fun h =>
    Nat.lt_of_le_of_lt (word_sle _) (text_shorter r 16384 h0 (take_err_of _ _ h))
  change (FrameC.R.frame r).1.err = 0 at he
  show (FrameC.R.frame r).1.s.length < _
  rcases h2 with ⟨c1, _, e⟩ | ⟨c1, _, e⟩ | ⟨c1, e⟩
  · rw [hd, e] at he
    rw [fail_of c1 (by decide)] at he
    cases he
  · rw [hd, e]
    exact fin c1
  · rw [hd, e] at he
    exact absurd he c1
/-- The frames of bytes, up to the first that is none; what is left. -/
def fall : Nat → R → List (List UInt8) × R
  | 0, r => ([], r)
  | f + 1, r => if r.s = [] then ([], r) else if (frame r).1.err ≠ 0 then ([], r) else ((frame r).2 :: (fall f (frame r).1).1, (fall f (frame r).1).2)
theorem fall_len (f : Nat) : ∀ r : R, r.err = 0 → (fall f r).1.length + (fall f r).2.s.length ≤ r.s.length := by
  induction f with
  | zero => intro r _; simp [fall]
  | succ f ih =>
    intro r h0
    rw [fall]
    split
    · simp
    · split
      · simp
      · rename_i h1 h2
        have h3 : (frame r).1.err = 0 := by omega
        have := ih (frame r).1 h3
        have := frame_shorter r h0 h3
        dsimp only
        rw [List.length_cons]
        omega
theorem fall_app (ts : List (List UInt8)) : ∀ (f : Nat) (rest : List UInt8), (∀ t ∈ ts, t.length ≤ 16384) → (ts.flatMap fputL ++ rest).length ≤ f → ∃ f', rest.length ≤ f' ∧ fall f ⟨ts.flatMap fputL ++ rest, 0⟩ = (ts ++ (fall f' ⟨rest, 0⟩).1, (fall f' ⟨rest, 0⟩).2) := by
  induction ts with
  | nil => intro f rest _ h; exact ⟨f, by simpa using h, rfl⟩
  | cons t ts ih =>
    intro f rest ht hf
    have hb := frame_back t (ts.flatMap fputL ++ rest) (ht t (List.mem_cons_self ..))
    rw [List.flatMap_cons, List.append_assoc] at hf ⊢
    have hne : fputL t ++ (ts.flatMap fputL ++ rest) ≠ [] := by
      intro e
      have h2 := frame_shorter ⟨fputL t ++ (ts.flatMap fputL ++ rest), 0⟩ rfl (by show (FrameC.R.frame _).1.err = 0; rw [hb])
      rw [e] at h2
      simp at h2
    have hpos := List.length_pos_iff.2 hne
    obtain ⟨f, rfl⟩ : ∃ q, f = q + 1 := ⟨f - 1, by omega⟩
    have hlt := frame_shorter ⟨fputL t ++ (ts.flatMap fputL ++ rest), 0⟩ rfl (by show (FrameC.R.frame _).1.err = 0; rw [hb])
    have hb' : frame ⟨fputL t ++ (ts.flatMap fputL ++ rest), 0⟩ = (⟨ts.flatMap fputL ++ rest, 0⟩, t) := hb
    rw [hb'] at hlt
    dsimp only at hlt
    obtain ⟨f', h1, h2⟩ := ih f rest (fun t h => ht t (List.mem_cons_of_mem _ h)) (by omega)
    refine ⟨f', h1, ?_⟩
    rw [fall, if_neg hne, hb', if_neg (by simp), h2]
    rfl
theorem all_loop {all : List UInt8} (f : Nat) : ∀ (r : R) (k : Nat) (out : List ByteArray), St all r → r.err = 0 → r.s.length ≤ f → f + 30 < k → out.length + f < 8796093022208 →
    frame_All.l0 k (bs all) out (at_ all r) (bs all) (at_ all r) (r.err : Int) = some (out ++ (fall f r).1.map bs, at_ all (fall f r).2) := by
  induction f with
  | zero =>
    intro r k out h he hl hk ho
    obtain ⟨k, rfl⟩ : ∃ q, k = q + 1 := ⟨k - 1, by omega⟩
    simp only [frame_All.l0]
    rw [left_eq h]
    simp only [Option.bind_some]
    rw [if_neg (by omega)]
    simp [fall]
  | succ f ih =>
    intro r k out h he hl hk ho
    obtain ⟨k, rfl⟩ : ∃ q, k = q + 1 := ⟨k - 1, by omega⟩
    simp only [frame_All.l0]
    rw [left_eq h]
    simp only [Option.bind_some]
    by_cases hs : r.s = []
    · rw [if_neg (by rw [hs]; simp), fall, if_pos hs]
      simp
    · have hpos := List.length_pos_iff.2 hs
      rw [if_pos (by omega), ftake_eq h k (by omega)]
      simp only [Option.bind_some, err_eq]
      rw [fall, if_neg hs]
      by_cases hf : (frame r).1.err = 0
      · have hlt := frame_shorter r he hf
        have hnf : ¬ (frame r).1.err ≠ 0 := fun z => z hf
        rw [if_pos (by omega), if_neg hnf, if_pos (by omega), left_eq (St.frame h)]
        simp only [Option.bind_some]
        have hl2 := (St.frame h).le
        have hln := h.len
        have hat : wrap64 (((bs all).size : Int) - ((frame r).1.s.length : Int)) = at_ all (frame r).1 := by
          rw [bs_size]
          unfold wrap64 at_
          omega
        rw [hat, ih (frame r).1 k (out ++ [bs (frame r).2]) (St.frame h) hf (by omega) (by omega) (by simp; omega)]
        simp
      · rw [if_neg (by omega), if_pos hf]
        simp
theorem fall_eq_all (l : List UInt8) (h : l.length ≤ 1000000000000) (k : Nat) (hk : l.length + 40 < k) : frame_All.f k (bs l) = some ((fall l.length ⟨l, 0⟩).1.map bs, at_ l (fall l.length ⟨l, 0⟩).2) := by
  have := all_loop l.length ⟨l, 0⟩ k [] (St.start (by omega)) rfl (Nat.le_refl _) (by omega) (by simp; omega)
  rw [at_start, List.nil_append] at this
  unfold frame_All.f
  rw [from_eq]
  simp only [Option.bind_some]
  exact this
end Go.Proofs.YtjkjcpbhlgjgcaaDoor.FramePr
