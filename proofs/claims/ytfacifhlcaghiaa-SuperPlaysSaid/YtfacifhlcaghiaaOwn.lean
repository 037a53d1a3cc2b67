/- Rows of the call's own that grow by append, one element of one cell at a time; slices read as lists of integers. Over any program. -/
import Derived.Test.YtfacifhlcaghiaaGen
import Derived.Maps.AppendAt
import Derived.Deep.AppendLies
import Derived.RegionTactic
import Derived.OwnWalk
namespace Go.Proofs.Ytfacifhlcaghiaa.Own
open Go Go.RowKit
open Go.Proofs.Ytfacifhlcaghiaa.Gen
set_option linter.unusedVariables false
theorem own_slice {w : World} {B : Nat} {e : TypeId} {size n : Nat} {v : Value} {xs : List Value} (h : w.ownsRow B e size v n xs) : ∃ A cap, v = .slice A n cap ∧ n ≤ cap := by
  rcases h.2 with ⟨rfl, rfl⟩ | ⟨g, cap, cur, rfl, _, _, hc, _⟩
  · exact ⟨none, 0, rfl, Nat.le_refl _⟩
  · exact ⟨_, cap, rfl, hc⟩
/-- Memory of a row of one's own, read. -/
theorem own_cell {w : World} {B : Nat} {e : TypeId} {size n cap : Nat} {A : Option Addr} {xs : List Value} (h : w.ownsRow B e size (.slice A n cap) n xs) (i : Nat) (u : Value) (hi : xs[i]? = some u) : ∃ ad, A = some ad ∧ w.cell? (ad.add i) = some u := by
  cases A with
  | none =>
    rcases h.2 with ⟨h1, h2⟩ | ⟨g, _, _, h1, _⟩
    · injection h1 with _ h3 _
      have := h.1
      rw [h3] at this
      simp only [Nat.zero_mul, List.length_eq_zero_iff] at this
      subst this
      simp at hi
    · cases h1
  | some ad =>
    refine ⟨ad, rfl, ?_⟩
    rcases h.2 with ⟨h1, _⟩ | ⟨g, _, _, h1, _⟩
    · cases h1
    · injection h1 with h1 _ _
      injection h1 with h1
      have := h.cells (g := g) (by simp [Value.ownBlock, h1]) i u hi
      rw [h1]
      exact this
theorem own_ints {w : World} {B : Nat} {e : TypeId} {n cap : Nat} {A : Option Addr} {l : List Int} (h : w.ownsRow B e 1 (.slice A n cap) n (l.map (.int .i64))) : n = l.length ∧ ∀ i, i < l.length → ∃ ad, A = some ad ∧ w.cell? (ad.add i) = some (.int .i64 (l[i]?.getD 0)) := by
  have hn := h.1
  rw [List.length_map, Nat.mul_one] at hn
  refine ⟨hn.symm, fun i hi => ?_⟩
  exact own_cell h i _ (by simp [hi])
theorem own_below {w w' : World} {B : Nat} {e : TypeId} {size n : Nat} {v : Value} {xs : List Value} (h : w.ownsRow B e size v n xs) (hb : Below w.heap.size w w') : w'.ownsRow B e size v n xs :=
  h.kept (row := none) ⟨hb.os, hb.tape, hb.output, hb.size, fun i hi _ => hb.block i hi⟩ (by cases v.ownBlock <;> simp)
theorem info_one {P : Program} {e : TypeId} {z : Value} {s b : Nat} (h : (P.info? e).map (fun i => (i.zero, i.size, i.bytes)) = some (some z, s, b)) : ∃ i, P.info? e = some i ∧ i.zero = some z ∧ i.size = s ∧ i.bytes = b := by
  cases hi : P.info? e with
  | none => rw [hi] at h; cases h
  | some i =>
    rw [hi] at h
    simp only [Option.map_some, Option.some.injEq, Prod.mk.injEq] at h
    exact ⟨i, rfl, h.1, h.2.1, h.2.2⟩
/-- One element of one cell more. -/
theorem wpList_app1 {P : Program} (w : World) {ops : Array Oper} {rest : List Oper} {o : Oper} {a : Act} {Q : Exit → Act → World → Prop} (hgd : o.guard = none) (s x : Operand) (t : TypeId)
    (ho : o.op = .call { callee := .builtin .append, args := #[s, x], argTypes := #[t, t] })
    (base : Nat) (e : TypeId) (z : Value) (bytes : Nat) (ht : P.underlying t = some (.slice e)) (hi : (P.info? e).map (fun i => (i.zero, i.size, i.bytes)) = some (some z, 1, bytes)) (hzs : z.cells.size = 1)
    (v : Value) (n : Nat) (xs : List Value) (hs : a.eval s = v) (hown : w.ownsRow base e 1 v n xs)
    (ad : Addr) (u : Value) (hx : a.eval x = .slice (some ad) 1 1) (hu : w.cell? ad = some u) (h1 : u.oneCell' = true)
    (hn : n < 1000000000) (hbytes : bytes ≤ 1000) (hbase : base ≤ w.heap.size)
    (h : ∀ A cap w', w'.ownsRow base e 1 (.slice A (n + 1) cap) (n + 1) (xs ++ [u]) → n + 1 ≤ cap → w.grownBy w' v.ownBlock → Below base w w' → ((Value.slice A (n + 1) cap).ownBlock = v.ownBlock ∨ (Value.slice A (n + 1) cap).ownBlock = some w.heap.size) → wpList P ops Q rest (a.put o.dst (.slice A (n + 1) cap)) w') : wpList P ops Q (o :: rest) a w := by
  obtain ⟨i, hi0, hz, hsz, hby⟩ := info_one hi
  refine wpList_plain hgd fun K hK => ?_
  obtain ⟨v', w', hrun, h2, h3, _, h5⟩ := run_append_own_at (P := P) w base t o.type e i z 1 bytes ht hi0 hz hsz hby hzs (by omega) v n xs hown ad 1 1 [u] rfl
    (fun j y hy => by
      cases j with
      | zero =>
        simp only [List.getElem?_cons_zero, Option.some.injEq] at hy
        subst hy
        exact hu
      | succ j => simp at hy)
    (fun y hy => by
      simp only [List.mem_singleton] at hy
      subst hy
      exact h1)
    (by simp only [maxLen]; omega) (by
      have : (n + 1) * bytes ≤ 1000000000 * 1000 := Nat.mul_le_mul (by omega) hbytes
      omega) hbase
  obtain ⟨A, cap, rfl, hc⟩ := own_slice h2
  unfold Oper.wp execOp
  simp only [ho, resolve, invoke, builtin, Sem.run_bind, Sem.run_pure, Result.andThen_ok, List.map_toArray, List.map_cons, List.map_nil, hs, hx, hrun]
  exact hK _ _ (h A cap w' h2 hc h3 ((Below.refl base w).grown h3 hbase (fun k hk => (hown.lt k hk).1)) h5)
end Go.Proofs.Ytfacifhlcaghiaa.Own
