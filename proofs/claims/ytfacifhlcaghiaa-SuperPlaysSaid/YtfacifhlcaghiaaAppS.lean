/- append of a slice that came in, nil or not, behind a row of the call's own. Over any program. -/
import Derived.Test.YtfacifhlcaghiaaOwn
import Derived.Laws.AppendOwnNone
namespace Go.Proofs.Ytfacifhlcaghiaa.Own
open Go Go.RowKit
open Go.Proofs.Ytfacifhlcaghiaa.Gen
set_option linter.unusedVariables false
/-- A slice of no elements, made: a row of the call's own. -/
theorem own_empty {w : World} {B g : Nat} {e : TypeId} {k : Nat} (hB : B ≤ g) (hg : w.heap[g]? = some (.cells #[] e (0, 0))) : w.ownsRow B e k (.slice (some ⟨g, 0, none⟩) 0 0) 0 [] :=
  ⟨by simp, .inr ⟨g, 0, #[], rfl, hB, hg, Nat.le_refl _, by unfold maxLen; omega, by simp, by simp⟩⟩
/-- The elements of a slice that came in, behind a row of the call's own. -/
theorem wpList_appS {P : Program} (w : World) {ops : Array Oper} {rest : List Oper} {o : Oper} {a : Act} {Q : Exit → Act → World → Prop} (hgd : o.guard = none) (s x : Operand) (t : TypeId)
    (ho : o.op = .call { callee := .builtin .append, args := #[s, x], argTypes := #[t, t] })
    (base : Nat) (e : TypeId) (z : Value) (k bytes : Nat) (ht : P.underlying t = some (.slice e)) (hi : (P.info? e).map (fun i => (i.zero, i.size, i.bytes)) = some (some z, k, bytes)) (hzs : z.cells.size = k) (hk : 0 < k)
    (v : Value) (n : Nat) (xs : List Value) (hs : a.eval s = v) (hown : w.ownsRow base e k v n xs)
    (A : Option Addr) (m c : Nat) (us : List Value) (hul : us.length = m * k) (hx : a.eval x = .slice A m c) (hnil : A = none → m = 0 ∧ c = 0) (hu : ∀ ad, A = some ad → ∀ j u, us[j]? = some u → w.cell? (ad.add j) = some u) (h1 : ∀ u ∈ us, u.oneCell' = true)
    (hn : n + m < 1000000000) (hbytes : bytes ≤ 1000) (hbase : base ≤ w.heap.size)
    (h : ∀ A' cap w', w'.ownsRow base e k (.slice A' (n + m) cap) (n + m) (xs ++ us) → n + m ≤ cap → Below base w w' → w.heap.size ≤ w'.heap.size → wpList P ops Q rest (a.put o.dst (.slice A' (n + m) cap)) w') : wpList P ops Q (o :: rest) a w := by
  obtain ⟨i, hi0, hz, hsz, hby⟩ := info_one hi
  cases A with
  | none =>
    obtain ⟨rfl, rfl⟩ := hnil rfl
    have hus : us = [] := List.eq_nil_of_length_eq_zero (by omega)
    subst hus
    obtain ⟨A', cap, rfl, hc⟩ := own_slice hown
    refine wpList_append_own_none hgd s x t ho base e i k ht hi0 _ n xs hs hown hx ?_
    have := h A' cap w (by simpa using hown) (by simpa using hc) (Below.refl _ _) (Nat.le_refl _)
    simpa using this
  | some ad =>
    refine wpList_plain hgd fun K hK => ?_
    obtain ⟨v', w', hrun, h2, h3, _, h5⟩ := run_append_own_at (P := P) w base t o.type e i z k bytes ht hi0 hz hsz hby hzs hk v n xs hown ad m c us hul (hu ad rfl) h1
      (by simp only [maxLen]; omega) (by
        have : (n + m) * bytes ≤ 1000000000 * 1000 := Nat.mul_le_mul (by omega) hbytes
        omega) hbase
    obtain ⟨A', cap, rfl, hc⟩ := own_slice h2
    unfold Oper.wp execOp
    simp only [ho, resolve, invoke, builtin, Sem.run_bind, Sem.run_pure, Result.andThen_ok, List.map_toArray, List.map_cons, List.map_nil, hs, hx, hrun]
    exact hK _ _ (h A' cap w' h2 hc ((Below.refl base w).grown h3 hbase (fun k hk => (hown.lt k hk).1)) h3.size)
end Go.Proofs.Ytfacifhlcaghiaa.Own
