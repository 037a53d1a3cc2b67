/- Layer 4 (disk) in plain Lean: sectors that are sure, and writings that are not. Over any program. -/
import Derived.Test.YtfacifhlcaghiaaAppG
import Derived.Test.YtfacifhlcaghiaaRowK
namespace Go.Proofs.Ytfacifhlcaghiaa.Dsk
open Go Go.RowKit
open Go.Proofs.Ytfacifhlcaghiaa.Gen
open Go.Proofs.Ytfacifhlcaghiaa.Own
open Go.Proofs.Ytfacifhlcaghiaa.RowK
set_option linter.unusedVariables false
abbrev Sec := List UInt8
def blankL : Sec := List.replicate 64 0
/-- A writing. -/
structure Wr where
  a : Int
  s : Sec
def sv (s : Sec) : Value := .string ⟨s.toArray⟩
def flatS (S : List Sec) : List Value := S.map sv
def flatW : List Wr → List Value
  | [] => []
  | x :: l => .int .i64 x.a :: sv x.s :: flatW l
theorem flatS_len (S : List Sec) : (flatS S).length = S.length := by simp [flatS]
theorem flatW_len : ∀ L : List Wr, (flatW L).length = L.length * 2
  | [] => rfl
  | x :: l => by
    show (flatW l).length + 1 + 1 = (l.length + 1) * 2
    rw [flatW_len l]
    omega
theorem flatW_append : ∀ a b : List Wr, flatW (a ++ b) = flatW a ++ flatW b
  | [], _ => rfl
  | x :: a, b => by
    show _ :: _ :: flatW (a ++ b) = _
    rw [flatW_append a b]
    rfl
theorem flatW_get {l : List Wr} {j : Nat} (h : j < l.length) : (flatW l)[j * 2]? = some (.int .i64 l[j].a) ∧ (flatW l)[j * 2 + 1]? = some (sv l[j].s) := by
  have h1 : l = l.take j ++ l[j] :: l.drop (j + 1) := by rw [← List.drop_eq_getElem_cons h, List.take_append_drop]
  have h2 : (flatW (l.take j)).length = j * 2 := by rw [flatW_len, List.length_take, Nat.min_eq_left (by omega)]
  generalize l[j] = y at h1
  rw [h1, flatW_append]
  constructor
  · rw [List.getElem?_append_right (by omega), h2, Nat.sub_self]
    rfl
  · rw [List.getElem?_append_right (by omega), h2, Nat.add_sub_cancel_left]
    rfl
theorem flatS_get {S : List Sec} {j : Nat} (h : j < S.length) : (flatS S)[j]? = some (sv S[j]) := by
  unfold flatS
  rw [List.getElem?_map, List.getElem?_eq_getElem h]
  rfl
def padL (s : Sec) : Sec := s ++ blankL.drop s.length
theorem padL_len {s : Sec} (h : s.length ≤ 64) : (padL s).length = 64 := by
  unfold padL blankL
  rw [List.length_append, List.length_drop, List.length_replicate]
  omega
/-- What is read. -/
def rdL (S : List Sec) (L : List Wr) (n : Nat) : Sec := L.foldl (fun x w => if w.a = (n : Int) then w.s else x) (S.getD n [])
theorem rdL_snoc (S : List Sec) (L : List Wr) (w : Wr) (n : Nat) : rdL S (L ++ [w]) n = if w.a = (n : Int) then w.s else rdL S L n := by
  unfold rdL
  rw [List.foldl_append]
  rfl
/-- Made sure. -/
def syncL (S : List Sec) (L : List Wr) : List Sec := L.foldl (fun S w => S.set w.a.toNat w.s) S
theorem syncL_snoc (S : List Sec) (L : List Wr) (w : Wr) : syncL S (L ++ [w]) = (syncL S L).set w.a.toNat w.s := by
  unfold syncL
  rw [List.foldl_append]
  rfl
/-- What of a sector is there behind a fate. -/
def keptL (f : Nat) (was is : Sec) : Sec := if f = 1 then is else if f = 2 then is.take 32 ++ was.drop 32 else if f = 3 then was.take 32 ++ is.drop 32 else was
def fate (f : Int) (k : Nat) : Nat := (f.toNat >>> (2 * (k % 32))) % 4
/-- A failure, so many writings long. -/
def crashN (f : Int) (S : List Sec) (L : List Wr) : Nat → List Sec
  | 0 => S
  | k + 1 => match L[k]? with
    | some w => (crashN f S L k).set w.a.toNat (keptL (fate f k) ((crashN f S L k).getD w.a.toNat []) w.s)
    | none => crashN f S L k
def crashL (f : Int) (S : List Sec) (L : List Wr) : List Sec := crashN f S L L.length
theorem crashN_succ (f : Int) (S : List Sec) (L : List Wr) {k : Nat} (h : k < L.length) : crashN f S L (k + 1) = (crashN f S L k).set L[k].a.toNat (keptL (fate f k) ((crashN f S L k).getD L[k].a.toNat []) L[k].s) := by
  show (match L[k]? with | some w => _ | none => _) = _
  rw [List.getElem?_eq_getElem h]
/-- Sectors and writings as they may be. -/
structure OkD (S : List Sec) (L : List Wr) : Prop where
  n : S.length ≤ 4096
  sz : ∀ s ∈ S, s.length = 64
  inn : ∀ w ∈ L, 0 ≤ w.a ∧ w.a < S.length ∧ w.s.length = 64
theorem sz_set {S : List Sec} (h : ∀ s ∈ S, s.length = 64) {s : Sec} (hs : s.length = 64) (i : Nat) : ∀ x ∈ S.set i s, x.length = 64 := fun x hx => by
  rcases List.mem_or_eq_of_mem_set hx with h1 | rfl
  · exact h x h1
  · exact hs
theorem getD_sz {S : List Sec} (h : ∀ s ∈ S, s.length = 64) {i : Nat} (hi : i < S.length) : (S.getD i []).length = 64 := by
  rw [List.getD_eq_getElem?_getD, List.getElem?_eq_getElem hi]
  exact h _ (List.getElem_mem hi)
theorem keptL_len {f : Nat} {a b : Sec} (ha : a.length = 64) (hb : b.length = 64) : (keptL f a b).length = 64 := by
  unfold keptL
  split
  · exact hb
  · split
    · rw [List.length_append, List.length_take, List.length_drop]; omega
    · split
      · rw [List.length_append, List.length_take, List.length_drop]; omega
      · exact ha
theorem syncL_ok {S : List Sec} : ∀ (L : List Wr), (∀ s ∈ S, s.length = 64) → (∀ w ∈ L, w.s.length = 64) → (syncL S L).length = S.length ∧ ∀ s ∈ syncL S L, s.length = 64 := by
  intro L
  induction L generalizing S with
  | nil => exact fun h _ => ⟨rfl, h⟩
  | cons w L ih =>
    intro h1 h2
    have h3 := ih (S := S.set w.a.toNat w.s) (sz_set h1 (h2 w List.mem_cons_self) _) (fun x hx => h2 x (List.mem_cons_of_mem _ hx))
    rw [List.length_set] at h3
    exact h3
theorem crashN_ok {f : Int} {S : List Sec} {L : List Wr} (h : OkD S L) : ∀ k, (crashN f S L k).length = S.length ∧ ∀ s ∈ crashN f S L k, s.length = 64
  | 0 => ⟨rfl, h.sz⟩
  | k + 1 => by
    have ih := crashN_ok (f := f) h k
    by_cases hk : k < L.length
    · rw [crashN_succ f S L hk]
      have hw := h.inn _ (List.getElem_mem hk)
      exact ⟨by rw [List.length_set]; exact ih.1, sz_set ih.2 (keptL_len (getD_sz ih.2 (by omega)) hw.2.2) _⟩
    · show (match L[k]? with | some w => _ | none => _ : List Sec).length = _ ∧ _
      rw [show crashN f S L (k + 1) = crashN f S L k by show (match L[k]? with | some w => _ | none => _) = _; rw [List.getElem?_eq_none (by omega)]]
      rw [List.getElem?_eq_none (by omega)]
      exact ih
theorem OkD.sync {S : List Sec} {L : List Wr} (h : OkD S L) : OkD (syncL S L) [] := by
  have h1 := syncL_ok L h.sz (fun w hw => (h.inn w hw).2.2)
  exact ⟨by rw [h1.1]; exact h.n, h1.2, fun w hw => by cases hw⟩
theorem OkD.crash {S : List Sec} {L : List Wr} (h : OkD S L) (f : Int) : OkD (crashL f S L) [] := by
  have h1 := crashN_ok (f := f) h L.length
  exact ⟨by unfold crashL; rw [h1.1]; exact h.n, h1.2, fun w hw => by cases hw⟩
theorem OkD.write {S : List Sec} {L : List Wr} (h : OkD S L) {a : Int} {s : Sec} (h0 : 0 ≤ a) (h1 : a < S.length) (hs : s.length ≤ 64) : OkD S (L ++ [⟨a, padL s⟩]) :=
  ⟨h.n, h.sz, fun w hw => by
    rcases List.mem_append.1 hw with hw | hw
    · exact h.inn w hw
    · obtain rfl := List.mem_singleton.1 hw
      exact ⟨h0, h1, padL_len hs⟩⟩
theorem ok_new {n : Nat} (h : n ≤ 4096) : OkD (List.replicate n blankL) [] :=
  ⟨by rw [List.length_replicate]; exact h, fun s hs => by rw [(List.mem_replicate.1 hs).2]; unfold blankL; exact List.length_replicate, fun w hw => by cases hw⟩
theorem rdL_len {S : List Sec} {L : List Wr} (h : OkD S L) {n : Nat} (hn : n < S.length) : (rdL S L n).length = 64 := by
  obtain ⟨x, hx⟩ : ∃ x, x = S.getD n [] := ⟨_, rfl⟩
  have hxl : x.length = 64 := by rw [hx]; exact getD_sz h.sz hn
  have hL := fun w hw => (h.inn w hw).2.2
  unfold rdL
  rw [← hx]
  clear hx h hn
  induction L generalizing x with
  | nil => exact hxl
  | cons w L ih =>
    show (L.foldl _ (if w.a = (n : Int) then w.s else x)).length = 64
    refine ih _ ?_ (fun w' hw => hL w' (List.mem_cons_of_mem _ hw))
    split
    · exact hL w List.mem_cons_self
    · exact hxl
/-- Read from behind: the first that is of the sector, if any is. -/
theorem rdL_none (S : List Sec) (n : Nat) : ∀ (L : List Wr), (∀ w ∈ L, w.a ≠ (n : Int)) → rdL S L n = S.getD n [] := by
  intro L
  unfold rdL
  generalize S.getD n [] = x
  induction L generalizing x with
  | nil => intro _; rfl
  | cons w L ih =>
    intro h
    show L.foldl _ (if w.a = (n : Int) then w.s else x) = x
    rw [if_neg (h w List.mem_cons_self)]
    exact ih x (fun w' hw => h w' (List.mem_cons_of_mem _ hw))
theorem rdL_some (S : List Sec) (n : Nat) (A : List Wr) (w : Wr) (B : List Wr) (hw : w.a = (n : Int)) (h : ∀ x ∈ B, x.a ≠ (n : Int)) : rdL S (A ++ w :: B) n = w.s := by
  have h1 : ∀ (B : List Wr) (x : Sec), (∀ w ∈ B, w.a ≠ (n : Int)) → B.foldl (fun x w => if w.a = (n : Int) then w.s else x) x = x := by
    intro B
    induction B with
    | nil => intro x _; rfl
    | cons w B ih =>
      intro x h
      show B.foldl _ (if w.a = (n : Int) then w.s else x) = x
      rw [if_neg (h w List.mem_cons_self)]
      exact ih x (fun w' hw => h w' (List.mem_cons_of_mem _ hw))
  unfold rdL
  rw [List.foldl_append]
  show B.foldl _ (if w.a = (n : Int) then w.s else _) = _
  rw [if_pos hw, h1 B _ h]
/-! ### in memory -/
/-- A disk's blocks: its own, its sectors' row, its writings' row. -/
structure Hd where
  g : Nat
  vA : Value
  vB : Value
def Hd.mine (h : Hd) (k : Nat) : Prop := k = h.g ∨ h.vA.ownBlock = some k ∨ h.vB.ownBlock = some k
theorem heap_setD {w : World} {g c : Nat} {cur : Array Value} {t : TypeId} (h : w.heap[g]? = some (.cells cur t (0, 0))) (u : Value) : (w.setCell ⟨g, c, none⟩ u).heap[g]? = some (.cells (cur.setIfInBounds c u) t (0, 0)) := by
  have hlt := (Array.getElem?_eq_some_iff.1 h).1
  have h' : w.heap[g] = .cells cur t (0, 0) := (Array.getElem?_eq_some_iff.1 h).2
  show (w.heap.modify g _)[g]? = _
  rw [Array.getElem?_eq_getElem (by simpa using hlt), Array.getElem_modify_self, h']
  rfl
theorem own_moveD {w w1 : World} {base : Nat} {e : TypeId} {size n : Nat} {v : Value} {xs : List Value} (h : w.ownsRow base e size v n xs) (hm : ∀ k, v.ownBlock = some k → w1.heap[k]? = w.heap[k]?) : w1.ownsRow base e size v n xs := by
  obtain ⟨h1, h2⟩ := h
  refine ⟨h1, ?_⟩
  rcases h2 with h2 | ⟨g, cap, cur, rfl, hg, hh, r⟩
  · exact .inl h2
  · exact .inr ⟨g, cap, cur, rfl, hg, (hm g (by simp [Value.ownBlock])).trans hh, r⟩
/-- One cell of a row of one's own set. -/
theorem own_setD {w : World} {B g n cap : Nat} {e : TypeId} {xs : List Value} (h : w.ownsRow B e 1 (.slice (some ⟨g, 0, none⟩) n cap) n xs) (c : Nat) (hc : c < n) (u : Value) : (w.setCell ⟨g, c, none⟩ u).ownsRow B e 1 (.slice (some ⟨g, 0, none⟩) n cap) n (xs.set c u) := by
  obtain ⟨h1, h2⟩ := h
  rw [Nat.mul_one] at h1
  rcases h2 with ⟨e1, _⟩ | ⟨g', cap', cur, e1, hg, hh, hcap, hm, hsz, ht⟩
  · cases e1
  · injection e1 with e1 _ e2
    injection e1 with e1
    injection e1 with e1 _ _
    subst e1
    subst e2
    rw [Nat.mul_one] at hsz ht
    refine ⟨by rw [List.length_set, Nat.mul_one]; exact h1, .inr ⟨g, cap, cur.setIfInBounds c u, rfl, hg, heap_setD hh u, hcap, hm, by rw [Array.size_setIfInBounds, Nat.mul_one]; exact hsz, ?_⟩⟩
    rw [Array.toList_setIfInBounds, Nat.mul_one, ← ht, List.take_set]
end Go.Proofs.Ytfacifhlcaghiaa.Dsk
