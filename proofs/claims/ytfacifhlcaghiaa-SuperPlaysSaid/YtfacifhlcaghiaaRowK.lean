/- Rows of elements of several cells: copy, append, as laws for the walk. Over any program. -/
import Derived.Test.YtfacifhlcaghiaaOwn
import Derived.Laws.CopyRow
import Derived.Laws.CopyOwn
import Derived.Lib.AppendZerosOnto
import Derived.Lib.Overlaps
import Derived.Deep.RegionLaw
namespace Go.Proofs.Ytfacifhlcaghiaa.RowK
open Go Go.RowKit
open Go.Proofs.Ytfacifhlcaghiaa.Gen
open Go.Proofs.Ytfacifhlcaghiaa.Own
set_option linter.unusedVariables false
/-- Cells laid over others from a place on. -/
def lay (cur : Array Value) (off : Nat) (cs : List Value) : Array Value := (cur.toList.take off ++ (cs ++ cur.toList.drop (off + cs.length))).toArray
theorem lay_size {cur : Array Value} {off : Nat} {cs : List Value} (h : off + cs.length ≤ cur.size) : (lay cur off cs).size = cur.size := by
  simp [lay]
  omega
theorem lay_toList (cur : Array Value) (off : Nat) (cs : List Value) : (lay cur off cs).toList = cur.toList.take off ++ (cs ++ cur.toList.drop (off + cs.length)) := by simp [lay]
/-- copy, of elements of k cells, into a block that is known whole. -/
theorem run_copyK {P : Program} (w : World) (dT sT ty elem : TypeId) (hu : P.underlying dT = some (.slice elem)) (k : Nat) (hk : ∀ w, (sizeOf elem).run P w = .ok k w)
    (g off dLen dCap : Nat) (ad : Addr) (sLen sCap : Nat) (cur : Array Value) (t : TypeId) (hg : w.heap[g]? = some (.cells cur t (0, 0))) (m : Nat) (hm : m = Nat.min sLen dLen) (cs : List Value) (hn : cs.length = m * k)
    (hsrc : ∀ j v, cs[j]? = some v → w.cell? (ad.add j) = some v) (hfit : off + cs.length ≤ cur.size) (h1 : ∀ v ∈ cs, v.oneCell' = true) :
    (Builtin.copy_ #[dT, sT] ty #[.slice (some ⟨g, off, none⟩) dLen dCap, .slice (some ad) sLen sCap]).run P w = .ok (goInt m) (w.setRow g (lay cur off cs)) := by
  have hf := run_firstCells_some (P := P) w k m ad sLen sCap cs (by rw [hn]) hsrc
  have hs := run_storeCells_at P g off t cs 0 cur w hg (by omega) h1
  rw [Nat.add_zero, List.append_assoc] at hs
  change _ = Result.ok () (w.setRow g (lay cur off cs)) at hs
  simp [Builtin.copy_, run_underlying hu, Builtin.lenOf, ← hm, hk, hf, hs]
theorem wpList_copyK {P : Program} {w : World} {ops : Array Oper} {rest : List Oper} {o : Oper} {a : Act} {Q : Exit → Act → World → Prop} (hgd : o.guard = none) (d s : Operand) (dT sT : TypeId)
    (ho : o.op = .call { callee := .builtin .copy, args := #[d, s], argTypes := #[dT, sT] }) (elem : TypeId) (hu : P.underlying dT = some (.slice elem)) (k : Nat) (hk : ∀ w, (sizeOf elem).run P w = .ok k w)
    (g off dLen dCap : Nat) (ad : Addr) (sLen sCap : Nat) (hd : a.eval d = .slice (some ⟨g, off, none⟩) dLen dCap) (hs : a.eval s = .slice (some ad) sLen sCap)
    (cur : Array Value) (t : TypeId) (hg : w.heap[g]? = some (.cells cur t (0, 0))) (m : Nat) (hm : m = Nat.min sLen dLen) (cs : List Value) (hn : cs.length = m * k)
    (hsrc : ∀ j v, cs[j]? = some v → w.cell? (ad.add j) = some v) (hfit : off + cs.length ≤ cur.size) (h1 : ∀ v ∈ cs, v.oneCell' = true)
    (h : ∀ w', Hid (w'.heap[g]? = some (.cells (lay cur off cs) t (0, 0))) → w.grownBy w' (some g) → wpList P ops Q rest (a.put o.dst (goInt m)) w') :
    wpList P ops Q (o :: rest) a w := by
  refine wpList_plain hgd fun K hK => ?_
  have hrun := run_copyK (P := P) w dT sT o.type elem hu k hk g off dLen dCap ad sLen sCap cur t hg m hm cs hn hsrc hfit h1
  unfold Oper.wp
  simp [execOp, ho, resolve, invoke, builtin, hd, hs, hrun, Result.andThen]
  exact hK _ _ (h _ (setRow_heap w g _ _ t _ hg) ⟨rfl, rfl, rfl, by simp [World.setRow], fun i _ hi => setRow_other w g i _ (fun e => hi (by rw [e]))⟩)
theorem step_copyK {P : Program} {ops : Array Oper} {o : Oper} {a : Act} {w : World} {K : Act → World → Prop} {Q : Exit → Act → World → Prop} {E : Prop} (hgd : o.guard = none) (d s : Operand) (dT sT : TypeId)
    (ho : o.op = .call { callee := .builtin .copy, args := #[d, s], argTypes := #[dT, sT] }) (elem : TypeId) (hu : P.underlying dT = some (.slice elem)) (k : Nat) (hk : ∀ w, (sizeOf elem).run P w = .ok k w)
    (g off dLen dCap : Nat) (ad : Addr) (sLen sCap : Nat) (hd : a.eval d = .slice (some ⟨g, off, none⟩) dLen dCap) (hs : a.eval s = .slice (some ad) sLen sCap)
    (cur : Array Value) (t : TypeId) (hg : w.heap[g]? = some (.cells cur t (0, 0))) (m : Nat) (hm : m = Nat.min sLen dLen) (cs : List Value) (hn : cs.length = m * k)
    (hsrc : ∀ j v, cs[j]? = some v → w.cell? (ad.add j) = some v) (hfit : off + cs.length ≤ cur.size) (h1 : ∀ v ∈ cs, v.oneCell' = true)
    (h : ∀ w', Hid (w'.heap[g]? = some (.cells (lay cur off cs) t (0, 0))) → w.grownBy w' (some g) → K (a.put o.dst (goInt m)) w') :
    if Region.wanted o (yielded ops a.tmps) = true then Oper.wp P o a w K Q else E := by
  have hw : Region.wanted o (yielded ops a.tmps) = true := by simp [Region.wanted, hgd]
  rw [if_pos hw]
  have hrun := run_copyK (P := P) w dT sT o.type elem hu k hk g off dLen dCap ad sLen sCap cur t hg m hm cs hn hsrc hfit h1
  unfold Oper.wp
  simp [execOp, ho, resolve, invoke, builtin, hd, hs, hrun, Result.andThen]
  exact h _ (setRow_heap w g _ _ t _ hg) ⟨rfl, rfl, rfl, by simp [World.setRow], fun i _ hi => setRow_other w g i _ (fun e => hi (by rw [e]))⟩
/-- One element of k cells more, behind a row of the call's own. -/
theorem wpList_appK {P : Program} (w : World) {ops : Array Oper} {rest : List Oper} {o : Oper} {a : Act} {Q : Exit → Act → World → Prop} (hgd : o.guard = none) (s x : Operand) (t : TypeId)
    (ho : o.op = .call { callee := .builtin .append, args := #[s, x], argTypes := #[t, t] })
    (base : Nat) (e : TypeId) (z : Value) (k bytes : Nat) (ht : P.underlying t = some (.slice e)) (hi : (P.info? e).map (fun i => (i.zero, i.size, i.bytes)) = some (some z, k, bytes)) (hzs : z.cells.size = k) (hk : 0 < k)
    (v : Value) (n : Nat) (xs : List Value) (hs : a.eval s = v) (hown : w.ownsRow base e k v n xs)
    (ad : Addr) (m c : Nat) (us : List Value) (hul : us.length = m * k) (hx : a.eval x = .slice (some ad) m c) (hu : ∀ j u, us[j]? = some u → w.cell? (ad.add j) = some u) (h1 : ∀ u ∈ us, u.oneCell' = true)
    (hn : n + m < 1000000000) (hbytes : bytes ≤ 1000) (hbase : base ≤ w.heap.size)
    (h : ∀ A cap w', w'.ownsRow base e k (.slice A (n + m) cap) (n + m) (xs ++ us) → n + m ≤ cap → w.grownBy w' v.ownBlock → Below base w w' → ((Value.slice A (n + m) cap).ownBlock = v.ownBlock ∨ (Value.slice A (n + m) cap).ownBlock = some w.heap.size) → wpList P ops Q rest (a.put o.dst (.slice A (n + m) cap)) w') : wpList P ops Q (o :: rest) a w := by
  obtain ⟨i, hi0, hz, hsz, hby⟩ := info_one hi
  refine wpList_plain hgd fun K hK => ?_
  obtain ⟨v', w', hrun, h2, h3, _, h5⟩ := run_append_own_at (P := P) w base t o.type e i z k bytes ht hi0 hz hsz hby hzs hk v n xs hown ad m c us hul hu h1
    (by simp only [maxLen]; omega) (by
      have : (n + m) * bytes ≤ 1000000000 * 1000 := Nat.mul_le_mul (by omega) hbytes
      omega) hbase
  obtain ⟨A, cap, rfl, hc⟩ := own_slice h2
  unfold Oper.wp execOp
  simp only [ho, resolve, invoke, builtin, Sem.run_bind, Sem.run_pure, Result.andThen_ok, List.map_toArray, List.map_cons, List.map_nil, hs, hx, hrun]
  exact hK _ _ (h A cap w' h2 hc h3 ((Below.refl base w).grown h3 hbase (fun k hk => (hown.lt k hk).1)) h5)
/-- append of so many zeros behind elements of a block that has no room: a new block. -/
theorem wpList_appZ {P : Program} (w : World) {ops : Array Oper} {rest : List Oper} {o : Oper} {a : Act} {Q : Exit → Act → World → Prop} (hgd : o.guard = none) (s x : Operand) (t tn : TypeId)
    (ho : o.op = .call { callee := .builtin .append, args := #[s, x], argTypes := #[t, tn] })
    (e : TypeId) (z : Value) (k bytes : Nat) (ht : P.underlying t = some (.slice e)) {kn : IntKind} (htn : P.underlying tn = some (.int kn)) (hi : (P.info? e).map (fun i => (i.zero, i.size, i.bytes)) = some (some z, k, bytes)) (hzs : z.cells.size = k) (hk : 0 < k)
    (g sLen sCap : Nat) (olds : List Value) (hol : olds.length = sLen * k) (hs : a.eval s = .slice (some ⟨g, 0, none⟩) sLen sCap) (hcells : ∀ j v, olds[j]? = some v → w.cell? ⟨g, j, none⟩ = some v)
    (kq : IntKind) (m : Nat) (hx : a.eval x = .int kq m) (hm : 0 < m) (hg : sCap < sLen + m) (hn : sLen + m < 1000000) (hbytes : bytes ≤ 1000)
    (h : ∀ cap cur w', sLen + m ≤ cap → cap ≤ maxLen → cur.size = cap * k → cur.toList.take (sLen * k) = olds → Hid (w'.heap[w.heap.size]? = some (.cells cur e (0, 0))) → w.grownBy w' none → w.heap.size < w'.heap.size → wpList P ops Q rest (a.put o.dst (.slice (some ⟨w.heap.size, 0, none⟩) (sLen + m) cap)) w') : wpList P ops Q (o :: rest) a w := by
  obtain ⟨i, hi0, hz, hsz, hby⟩ := info_one hi
  refine wpList_plain hgd fun K hK => ?_
  have hold : (Builtin.firstCells i.size sLen (.slice (some ⟨g, 0, none⟩) sLen sCap)).run P w.drew = .ok olds.toArray w.drew := by
    rw [hsz]
    exact run_firstCells_some (P := P) w.drew k sLen ⟨g, 0, none⟩ sLen sCap olds hol (fun j v hj => by
      have := hcells j v hj
      rw [show (⟨g, 0, none⟩ : Addr).add j = ⟨g, j, none⟩ by unfold Addr.add; split <;> simp_all]
      exact this)
  have hfit : Builtin.nextslicecap (sLen + m) sCap * i.bytes ≤ 281474976710656 := growslice_fits hg (by
    rw [hby]
    have : (sLen + m) * bytes ≤ 1000000 * 1000 := Nat.mul_le_mul (by omega) hbytes
    omega)
  have hrun := Lib.run_append_grow_zeros (P := P) w t tn o.type e i z kq kn ht htn hi0 hz (some ⟨g, 0, none⟩) sLen sCap olds hold m hm (by omega) hg (by omega) (by
    rw [hby]
    have : m * bytes ≤ 1000000 * 1000 := Nat.mul_le_mul (by omega) hbytes
    omega) hfit
  have hge := grownCap_ge w (sLen + m) sCap e
  have hcm : grownCap w (sLen + m) sCap e ≤ maxLen := grownCap_le_maxLen w (sLen + m) sCap e (by simp only [maxLen]; omega)
  unfold Oper.wp execOp
  simp only [ho, resolve, invoke, builtin, Sem.run_bind, Sem.run_pure, Result.andThen_ok, List.map_toArray, List.map_cons, List.map_nil, hs, hx, hrun]
  refine hK _ _ (h (grownCap w (sLen + m) sCap e) _ _ hge hcm ?_ ?_ (heap_alloc_new w.drew _) ⟨rfl, rfl, rfl, by simp, fun q hq _ => heap_alloc_old w.drew _ hq⟩ (by simp))
  · simp only [Array.size_append, List.size_toArray, size_zeroCells, hzs, hol, ← Nat.add_mul]
    congr 1
    omega
  · simp only [Array.toList_append, List.append_assoc]
    rw [← hol, List.take_left]
/-- A row of one's own, known by its block. -/
theorem own_block {w : World} {B : Nat} {e : TypeId} {k n : Nat} {v : Value} {xs : List Value} (h : w.ownsRow B e k v n xs) (hn : 0 < n) : ∃ g cap cur, v = .slice (some ⟨g, 0, none⟩) n cap ∧ B ≤ g ∧ w.heap[g]? = some (.cells cur e (0, 0)) ∧ n ≤ cap ∧ cap ≤ maxLen ∧ cur.size = cap * k ∧ cur.toList.take (n * k) = xs := by
  rcases h.2 with ⟨_, h0⟩ | h2
  · omega
  · exact h2
theorem cell_blk {w : World} {g i : Nat} {cur : Array Value} {t : TypeId} (h : w.heap[g]? = some (.cells cur t (0, 0))) : w.cell? ⟨g, i, none⟩ = cur[i]? := by
  simp [World.cell?, h]
theorem add_lit (g o j : Nat) : (⟨g, o, none⟩ : Addr).add j = ⟨g, o + j, none⟩ := by unfold Addr.add; split <;> simp_all
end Go.Proofs.Ytfacifhlcaghiaa.RowK
