/- Contracts of layer 4 (disk): read. -/
import Derived.Test.YtfacifhlcaghiaaDskB
namespace Go.Proofs.Ytfacifhlcaghiaa.Dsk
open Go Go.RowKit Go.Shelf
open Go.Proofs.Ytfacifhlcaghiaa.Gen
open Go.Proofs.Ytfacifhlcaghiaa.Own
open Go.Proofs.Ytfacifhlcaghiaa.RowK
set_option linter.unusedVariables false
attribute [local go_sem] Oper.semAt_some
theorem read_out (W : World) (p : Option Hd) (B : Nat) (S : List Sec) (L : List Wr) (a : Int) (h : ∀ h, p = some h → IsDk W B h S L ∧ ¬ (0 ≤ a ∧ a < S.length)) :
    Calls Try.prog 23 #[.pointer (p.map fun h => ⟨h.g, 0, none⟩), .int .i64 a] W fun e w' => e = .returned (.tuple #[.string ⟨#[]⟩, .int .i64 1]) ∧ Below W.heap.size W w' := by
  have hh : ∀ w, Below W.heap.size W w → Calls Try.prog 48 #[.pointer (p.map fun h => ⟨h.g, 0, none⟩), .int .i64 a] w fun e w' => e = .returned (.bool false) ∧ w = w' := fun w hw => by
    cases p with
    | none => exact has_nil w a
    | some h' => exact has_out w B h' S L ((h h' rfl).1.b hw) a (h h' rfl).2
  have HH := Lib.hid hh
  clear h hh
  have hb : Below W.heap.size W (((W.alloc (.cells #[.int .i64 a] 3)).alloc (.cells #[.string ⟨#[]⟩] 9)).alloc (.cells #[.int .i64 0] 24)) := (((Below.refl _ _).alloc (Nat.le_refl _) _).alloc (by simp) _).alloc (by simp; omega) _
  go_enter Try.func23, Try.ntmps23
  go_wp2_with fail
  refine (HH.out _ hb).mono ?_; rintro e w1 ⟨rfl, rfl⟩
  go_wp2_with fail
  exact bodyPost_ret (v := .tuple #[.string ⟨#[]⟩, .int .i64 1]) (by simp [results, Try.results23, go_sem]) rfl ⟨rfl, (((Below.refl _ _).alloc (Nat.le_refl _) _).alloc (by simp) _).alloc (by simp; omega) _⟩
def ReadPost (W : World) (s : Sec) (e : Ending) (w' : World) : Prop := e = .returned (.tuple #[.string ⟨s.toArray⟩, .int .i64 0]) ∧ Below W.heap.size W w'
theorem seqB_mem {L : List Wr} {k : Nat} {x : Px} (h : x ∈ seqB L k) (hk : k ≤ L.length) : ∃ j, j < k ∧ ∃ hj : L.length - 1 - j < L.length, x = (L.length - 1 - j, L[L.length - 1 - j]) := by
  unfold seqB at h
  obtain ⟨j, hj, rfl⟩ := List.mem_map.1 h
  rw [List.mem_range] at hj
  exact ⟨j, hj, by omega, by rw [List.getD_eq_getElem?_getD, List.getElem?_eq_getElem (by omega)]; rfl⟩
theorem seqB_has {L : List Wr} {k j : Nat} (hj : j < k) (hk : k ≤ L.length) : (L.length - 1 - j, L[L.length - 1 - j]'(by omega)) ∈ seqB L k := by
  unfold seqB
  refine List.mem_map.2 ⟨j, List.mem_range.2 hj, ?_⟩
  rw [List.getD_eq_getElem?_getD, List.getElem?_eq_getElem (by omega)]
  rfl
theorem rd_all {S : List Sec} {L : List Wr} {n : Nat} (h : ∀ x ∈ seqB L L.length, x.2.a ≠ (n : Int)) : rdL S L n = S.getD n [] := by
  refine rdL_none S n L (fun w hw => ?_)
  obtain ⟨i, hi, rfl⟩ := List.getElem_of_mem hw
  have := h _ (seqB_has (j := L.length - 1 - i) (k := L.length) (by omega) (Nat.le_refl _))
  have e : L.length - 1 - (L.length - 1 - i) = i := by omega
  simp only [e] at this
  exact this
theorem rd_stop {S : List Sec} {L : List Wr} {n k : Nat} (hk : k ≤ L.length) {ini : List Px} {last : Px} (hp : seqB L k = ini ++ [last]) (hi : ∀ x ∈ ini, x.2.a ≠ (n : Int)) (hl : last.2.a = (n : Int)) : rdL S L n = last.2.s := by
  obtain ⟨k', rfl⟩ : ∃ k', k = k' + 1 := by
    cases k with
    | zero => simp [seqB] at hp
    | succ k' => exact ⟨k', rfl⟩
  rw [seqB_succ] at hp
  obtain ⟨rfl, e5⟩ := List.append_inj' hp rfl
  have e6 : (L.length - 1 - k', L.getD (L.length - 1 - k') ⟨0, []⟩) = last := by simpa using e5
  subst e6
  simp only at hl ⊢
  obtain ⟨i, hi'⟩ : ∃ i, i = L.length - 1 - k' := ⟨_, rfl⟩
  rw [← hi'] at hl ⊢
  have hil : i < L.length := by omega
  rw [List.getD_eq_getElem?_getD, List.getElem?_eq_getElem hil] at hl ⊢
  simp only [Option.getD_some] at hl ⊢
  have hsp : L = L.take i ++ L[i] :: L.drop (i + 1) := by rw [← List.drop_eq_getElem_cons hil, List.take_append_drop]
  conv => lhs; rw [hsp]
  refine rdL_some S n _ _ _ hl (fun x hx => ?_)
  obtain ⟨j, hj, rfl⟩ := List.getElem_of_mem hx
  rw [List.length_drop] at hj
  have := hi _ (seqB_has (L := L) (j := L.length - 1 - (i + 1 + j)) (k := k') (by omega) (by omega))
  have e : L.length - 1 - (L.length - 1 - (i + 1 + j)) = i + 1 + j := by omega
  simp only [e] at this
  rw [List.getElem_drop]
  exact this
set_option maxRecDepth 100000 in
set_option maxHeartbeats 4000000 in
theorem read_in (w : World) (B : Nat) (h : Hd) (S : List Sec) (L : List Wr) (d : IsDk w B h S L) (n : Nat) (hn : n < S.length) :
    Calls Try.prog 23 #[ptr h, .int .i64 n] w (ReadPost w (rdL S L n)) := by
  refine (callsIn_wide (n := 6)).1 ?_
  have h1 : 1 ≤ 6 := by omega
  unfold ptr
  have hb : Below w.heap.size w (((w.alloc (.cells #[.int .i64 n] 3)).alloc (.cells #[.string ⟨#[]⟩] 9)).alloc (.cells #[.int .i64 0] 24)) := (((Below.refl _ _).alloc (Nat.le_refl _) _).alloc (by simp) _).alloc (by simp; omega) _
  have hh := Lib.hid (has_in _ B h S L (d.b hb) n hn)
  obtain ⟨g, vA, vB⟩ := h
  obtain ⟨A, cap, rfl, hcap⟩ := own_slice d.rl
  obtain ⟨c0, c1, _⟩ := d.cells
  simp only at c0 c1
  have hWS : WrS w.heap.size w A L := by
    by_cases hL : L = []
    · exact .inl hL
    · obtain ⟨g2, cap', e, _, h2, _, hcs⟩ := d.rowB hL
      injection e with e _ _
      exact .inr ⟨g2, e, h2, hcs⟩
  unfold ptr at hh
  have e1 := cellB hb c1
  have HD := Lib.hid d
  have HWS := Lib.hid hWS
  have hlen := d.few
  have hglt : g < w.heap.size := d.blk.lt
  clear d hWS
  refine callsIn_of_wp_marks Try.func23 rfl trivial ?_ rfl
  simp only [Try.ntmps23, List.size_toArray, List.length_cons, List.length_nil, Nat.reduceAdd, Nat.reduceSub, Array.replicate_succ, Array.replicate_zero, List.push_toArray, List.append_toArray, List.nil_append, List.cons_append]
  gi_wp2_with (first
    | (refine ⟨trivial, ?_⟩; gi_at_call 48; refine (callsIn_wide.2 hh.out).mono ?_; rintro e w' ⟨rfl, rfl⟩)
    | (refine ⟨trivial, ?_⟩; gi_at_call 49; refine (back_in Fence.wide _ trivial rfl _ _ _ _).mono ?_; rintro e w' ⟨rfl, rfl⟩))
  have kI := ((Blk.fresh w 3 #[.int .i64 n]).b (w' := (w.alloc (.cells #[.int .i64 n] 3)).alloc (.cells #[.string ⟨#[]⟩] 9)) ((Below.refl _ _).alloc (Nat.le_refl _) _)).b (w' := ((w.alloc (.cells #[.int .i64 n] 3)).alloc (.cells #[.string ⟨#[]⟩] 9)).alloc (.cells #[.int .i64 0] 24)) ((Below.refl _ _).alloc (Nat.le_refl _) _)
  have kS := (Blk.fresh (w.alloc (.cells #[.int .i64 n] 3)) 9 #[.string ⟨#[]⟩]).b (w' := ((w.alloc (.cells #[.int .i64 n] 3)).alloc (.cells #[.string ⟨#[]⟩] 9)).alloc (.cells #[.int .i64 0] 24)) ((Below.refl _ _).alloc (Nat.le_refl _) _)
  have kE := Blk.fresh ((w.alloc (.cells #[.int .i64 n] 3)).alloc (.cells #[.string ⟨#[]⟩] 9)) 24 #[.int .i64 0]
  have kL := Blk.fresh (((w.alloc (.cells #[.int .i64 n] 3)).alloc (.cells #[.string ⟨#[]⟩] 9)).alloc (.cells #[.int .i64 0] 24)) 80 #[.slice A L.length cap]
  have bL : Below (((w.alloc (.cells #[.int .i64 n] 3)).alloc (.cells #[.string ⟨#[]⟩] 9)).alloc (.cells #[.int .i64 0] 24)).heap.size (((w.alloc (.cells #[.int .i64 n] 3)).alloc (.cells #[.string ⟨#[]⟩] 9)).alloc (.cells #[.int .i64 0] 24)) ((((w.alloc (.cells #[.int .i64 n] 3)).alloc (.cells #[.string ⟨#[]⟩] 9)).alloc (.cells #[.int .i64 0] 24)).alloc (.cells #[.slice A L.length cap] 80)) := (Below.refl _ _).alloc (Nat.le_refl _) _
  replace kI := kI.b bL
  replace kS := kS.b bL
  replace kE := kE.b bL
  have hB0 := hb.trans (bL.mono hb.size)
  simp only [World.size_alloc] at kS kE kL
  have hsz : ((((w.alloc (.cells #[.int .i64 n] 3)).alloc (.cells #[.string ⟨#[]⟩] 9)).alloc (.cells #[.int .i64 0] 24)).alloc (.cells #[.slice A L.length cap] 80)).heap.size = w.heap.size + 1 + 1 + 1 + 1 := by simp
  clear bL e1 hh hb
  obtain ⟨W0, hW0⟩ : ∃ W0, (((w.alloc (.cells #[.int .i64 n] 3)).alloc (.cells #[.string ⟨#[]⟩] 9)).alloc (.cells #[.int .i64 0] 24)).alloc (.cells #[.slice A L.length cap] 80) = W0 := ⟨_, rfl⟩
  rw [hW0] at kI kS kE kL hB0 hsz ⊢
  clear hW0
  have hws : WrS W0.heap.size W0 A L := by
    rcases HWS.out.below hB0 with h | ⟨g2, h, h2, h3⟩
    · exact .inl h
    · exact .inr ⟨g2, h, by omega, h3⟩
  refine wpIn_rangeFunc_ownH rfl h1 (gf := 72) (lb := #[.pointer (some ⟨w.heap.size + 1 + 1 + 1, 0, none⟩)]) rfl trivial (enters_of Try.func72 (by kernel_rfl) rfl)
    (back_stops Fence.wide (6 - 1) trivial rfl (by omega) (w.heap.size + 1 + 1 + 1) W0.heap.size A cap L hlen W0 (by omega) (Nat.le_refl _) (kL.cell 0) hws) belowK_t (belowK_b (Nat.le_refl _)) (Below.refl _ _) (fun _ => rfl)
    (fun pre W => ((∀ x ∈ pre, x.2.a ≠ (n : Int)) ∧ Blk W w.heap.size 3 #[.int .i64 n] ∧ Blk W (w.heap.size + 1) 9 #[.string ⟨#[]⟩] ∧ Blk W (w.heap.size + 1 + 1) 24 #[.int .i64 0]) ∧ Below W0.heap.size W0 W)
    (fun c pre W => (c = .ret ∧ ∃ ini last, pre = ini ++ [last] ∧ (∀ x ∈ ini, x.2.a ≠ (n : Int)) ∧ last.2.a = (n : Int) ∧ Blk W (w.heap.size + 1) 9 #[.string ⟨last.2.s.toArray⟩] ∧ Blk W (w.heap.size + 1 + 1) 24 #[.int .i64 0]) ∧ Below w.heap.size w W)
    (OwnFrom.and (Own.from (fun s X Y row hs hg hr => ⟨hs.1, blk_kept hs.2.1 hg hr, blk_kept hs.2.2.1 hg hr, blk_kept hs.2.2.2 hg hr⟩) _) (ownFrom_below (Nat.le_refl _) (Nat.le_refl _)))
    (fun c => OwnFrom.and (Own.from (fun s X Y row hs hg hr => by obtain ⟨hc, ini, last, e1, e2, e3, e4, e5⟩ := hs; exact ⟨hc, ini, last, e1, e2, e3, blk_kept e4 hg hr, blk_kept e5 hg hr⟩) _) (ownFrom_below (Nat.le_refl _) (by omega)))
    ⟨⟨(fun x hx => by cases hx), kI, kS, kE⟩, Below.refl _ _⟩
    (fun x a' W => ∃ Bx, w.heap.size + 1 + 1 < Bx ∧ Blk W Bx 84 #[.int .i64 x.2.a, .string ⟨x.2.s.toArray⟩] ∧ a' = { tmps := #[.pointer (some ⟨g, 0, none⟩), .int .i64 n, undef, .pointer (some ⟨w.heap.size, 0, none⟩), .pointer (some ⟨w.heap.size + 1, 0, none⟩), .pointer (some ⟨w.heap.size + 1 + 1, 0, none⟩), undef, .pointer (some ⟨Bx, 0, none⟩), .pointer (some ⟨g, 0, none⟩), .int .i64 n, .bool true, .bool false, .pointer (some ⟨g, 0, none⟩), .pointer (some ⟨g, 0, none⟩), .pointer (some ⟨g, 1, none⟩), .slice A L.length cap, .func (.func 72) #[] #[.pointer (some ⟨w.heap.size + 1 + 1 + 1, 0, none⟩)], .int .i64 (x.1 : Int), .agg #[.int .i64 x.2.a, .string ⟨x.2.s.toArray⟩], undef, undef, undef, undef, undef, undef, undef, undef, undef, undef, undef, undef, undef], defers := [] })
    (fun x a' _ X Y row hs hg hr => by obtain ⟨Bx, h1, h2, h3⟩ := hs; exact ⟨Bx, h1, blk_kept h2 hg (fun r e => (hr r e).2), h3⟩)
    ?assign ?body ?done ?stop
  case assign =>
    rintro l pre x W K ⟨⟨hp, kI1, kS1, kE1⟩, hB1⟩ hK
    have hs2 := kE1.lt
    unfold encX
    gi_wp2
    have bB : Below W.heap.size W (W.alloc (.cells #[.int .i64 x.2.a, .string ⟨x.2.s.toArray⟩] 84)) := (Below.refl _ _).alloc (Nat.le_refl _) _
    exact hK _ _ ((KeepsOthers.alloc _ _).from _) ((Below.refl _ W).alloc hB1.size _) ⟨⟨hp, kI1.b bB, kS1.b bB, kE1.b bB⟩, hB1.alloc hB1.size _⟩ ⟨W.heap.size, hs2, Blk.fresh _ _ _, rfl⟩
  case body =>
    rintro l pre x a' W hl ⟨r, hr⟩ ⟨⟨hp, kI1, kS1, kE1⟩, hB1⟩ ⟨Bx, hBx, bX, rfl⟩ hlt
    obtain ⟨i, a, s⟩ := x
    have hBw := hB0.trans (hB1.mono hB0.size)
    simp only at bX ⊢
    have cI : W.cell? ⟨w.heap.size, 0, none⟩ = some (.int .i64 n) := kI1.cell 0
    have cX0 : W.cell? ⟨Bx, 0, none⟩ = some (.int .i64 a) := bX.cell 0
    have cX1 : W.cell? ⟨Bx, 1, none⟩ = some (.string ⟨s.toArray⟩) := bX.cell 1
    have cS : W.cell? ⟨w.heap.size + 1, 0, none⟩ = some (.string ⟨#[]⟩) := kS1.cell 0
    have cE : W.cell? ⟨w.heap.size + 1 + 1, 0, none⟩ = some (.int .i64 0) := kE1.cell 0
    have fS : W.frozen? ⟨w.heap.size + 1, 0, none⟩ = false := kS1.frozen 0
    have fE : W.frozen? ⟨w.heap.size + 1 + 1, 0, none⟩ = false := kE1.frozen 0
    by_cases hx : a = (n : Int)
    · subst hx
      have ht : ((n : Int) == (n : Int)) = true := by simp
      gi_wp2
      exact ⟨((KeepsOthers.setCell _ _ _).trans (KeepsOthers.setCell _ _ _)).from _, ⟨rfl, pre, _, rfl, hp, rfl, (Below.heap_setCell _ ⟨w.heap.size + 1 + 1, 0, none⟩ _ (w.heap.size + 1) (by show w.heap.size + 1 ≠ w.heap.size + 1 + 1; omega)).trans (heap_setD kS1 _), heap_setD ((Below.heap_setCell _ ⟨w.heap.size + 1, 0, none⟩ _ (w.heap.size + 1 + 1) (by show w.heap.size + 1 + 1 ≠ w.heap.size + 1; omega)).trans kE1) _⟩, (hBw.setCell (p := ⟨w.heap.size + 1, 0, none⟩) (by show w.heap.size ≤ w.heap.size + 1; omega) _).setCell (p := ⟨w.heap.size + 1 + 1, 0, none⟩) (by show w.heap.size ≤ w.heap.size + 1 + 1; omega) _⟩
    · have ht : (a == (n : Int)) = false := by simpa using hx
      gi_wp2
      exact ⟨KeepsFrom.refl _ _, Below.refl _ _, ⟨⟨fun y hy => (List.mem_append.1 hy).elim (hp y) (fun e => by obtain rfl := List.mem_singleton.1 e; exact hx), kI1, kS1, kE1⟩, hB1⟩⟩
  case done =>
    rintro D ys W hD rfl ⟨⟨hp, kI1, kS1, kE1⟩, hB1'⟩ hK
    have hB1 := hB0.trans (hB1'.mono hB0.size)
    have dW := HD.out.b hB1
    obtain ⟨g1, capA, hvA, _, _, hcs⟩ := dW.rowA
    obtain ⟨e4, _⟩ := hcs n hn
    simp only at hvA
    subst hvA
    unfold sv at e4
    have e0 : W.cell? ⟨g, 0, none⟩ = some (.slice (some ⟨g1, 0, none⟩) S.length capA) := dW.cells.1
    have cI : W.cell? ⟨w.heap.size, 0, none⟩ = some (.int .i64 n) := kI1.cell 0
    have cS : W.cell? ⟨w.heap.size + 1, 0, none⟩ = some (.string ⟨#[]⟩) := kS1.cell 0
    have cE : W.cell? ⟨w.heap.size + 1 + 1, 0, none⟩ = some (.int .i64 0) := kE1.cell 0
    have fS : W.frozen? ⟨w.heap.size + 1, 0, none⟩ = false := kS1.frozen 0
    have fE : W.frozen? ⟨w.heap.size + 1 + 1, 0, none⟩ = false := kE1.frozen 0
    have hsr : ¬ w.heap.size + 1 + 1 = w.heap.size + 1 := by omega
    have i0 : (0 : Int) ≤ (n : Int) := by omega
    have i1 : (n : Int) < (S.length : Int) := by omega
    have hra := rd_all (S := S) hp
    clear hcs dW hp
    gi_wp2
    rw [wpIn_wide]
    go_region
    gi_wp2
    obtain ⟨s, hs⟩ : ∃ s, s = S[n] := ⟨_, rfl⟩
    have hrs : rdL S L n = s := by rw [hra, hs, List.getD_eq_getElem?_getD, List.getElem?_eq_getElem hn]; rfl
    rw [← hs]
    have kS2 : Blk ((W.setCell ⟨w.heap.size + 1, 0, none⟩ (.string ⟨s.toArray⟩)).setCell ⟨w.heap.size + 1 + 1, 0, none⟩ (.int .i64 0)).drew (w.heap.size + 1) 9 #[.string ⟨s.toArray⟩] :=
      (Below.heap_setCell _ ⟨w.heap.size + 1 + 1, 0, none⟩ _ (w.heap.size + 1) (by show w.heap.size + 1 ≠ w.heap.size + 1 + 1; omega)).trans (heap_setD kS1 _)
    have kE2 : Blk ((W.setCell ⟨w.heap.size + 1, 0, none⟩ (.string ⟨s.toArray⟩)).setCell ⟨w.heap.size + 1 + 1, 0, none⟩ (.int .i64 0)).drew (w.heap.size + 1 + 1) 24 #[.int .i64 0] :=
      heap_setD ((Below.heap_setCell _ ⟨w.heap.size + 1, 0, none⟩ _ (w.heap.size + 1 + 1) (by show w.heap.size + 1 + 1 ≠ w.heap.size + 1; omega)).trans kE1) _
    have hK2 : ((W.setCell ⟨w.heap.size + 1, 0, none⟩ (.string ⟨s.toArray⟩)).setCell ⟨w.heap.size + 1 + 1, 0, none⟩ (.int .i64 0)).drew.heap[D]? = some (.deferred (some [])) :=
      ((KeepsOthers.setCell _ _ _).trans (KeepsOthers.setCell _ _ _)).same D _ hK rfl
    have hB2 : Below w.heap.size w ((W.setCell ⟨w.heap.size + 1, 0, none⟩ (.string ⟨s.toArray⟩)).setCell ⟨w.heap.size + 1 + 1, 0, none⟩ (.int .i64 0)).drew :=
      ((hB1.setCell (p := ⟨w.heap.size + 1, 0, none⟩) (by show w.heap.size ≤ w.heap.size + 1; omega) _).setCell (p := ⟨w.heap.size + 1 + 1, 0, none⟩) (by show w.heap.size ≤ w.heap.size + 1 + 1; omega) _).drew
    generalize ((W.setCell ⟨w.heap.size + 1, 0, none⟩ (.string ⟨s.toArray⟩)).setCell ⟨w.heap.size + 1 + 1, 0, none⟩ (.int .i64 0)).drew = W9 at kS2 kE2 hK2 hB2 ⊢
    refine ⟨by simp, .inl ⟨_, _, rfl, run_takeDeferred hK2, ?_⟩⟩
    have kS3 := blk_kept kS2 (grownBy_putObj' _ D (.deferred none)) (fun r e => by cases e; exact ⟨_, hK2, rfl⟩)
    have kE3 := blk_kept kE2 (grownBy_putObj' _ D (.deferred none)) (fun r e => by cases e; exact ⟨_, hK2, rfl⟩)
    have cS3 := kS3.cell 0
    have cE3 := kE3.cell 0
    refine ⟨.tuple #[.string ⟨s.toArray⟩, .int .i64 0], ?_, by rw [hrs], hB2.trans (belowK_b (w := w) (Nat.le_refl _) _ D _ _ (by omega) hK2 rfl rfl)⟩
    simp [results, Try.f23, go_sem, cS3, cE3]
  case stop =>
    rintro D c pre W hD ⟨k, hk, rfl⟩ ⟨⟨rfl, ini, last, e1, e2, e3, kS1, kE1⟩, hB1⟩ hK
    gi_wp2
    refine ⟨by simp, .inl ⟨_, _, rfl, run_takeDeferred hK, ?_⟩⟩
    have kS2 := blk_kept kS1 (grownBy_putObj' _ D (.deferred none)) (fun r e => by cases e; exact ⟨_, hK, rfl⟩)
    have kE2 := blk_kept kE1 (grownBy_putObj' _ D (.deferred none)) (fun r e => by cases e; exact ⟨_, hK, rfl⟩)
    have cS2 := kS2.cell 0
    have cE2 := kE2.cell 0
    refine ⟨.tuple #[.string ⟨last.2.s.toArray⟩, .int .i64 0], ?_, by rw [rd_stop hk e1 e2 e3], hB1.trans (belowK_b (w := w) (Nat.le_refl _) _ D _ _ (by omega) hK rfl rfl)⟩
    simp [results, Try.f23, go_sem, cS2, cE2]
end Go.Proofs.Ytfacifhlcaghiaa.Dsk
