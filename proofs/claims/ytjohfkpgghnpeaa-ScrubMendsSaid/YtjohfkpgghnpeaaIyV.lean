-- packed by pack.py, a program of this claim's repo
import Derived.Test.YtjohfkpgghnpeaaIyU
import Derived.Test.YtjohfkpgghnpeaaIyA
import Derived.Test.YtjohfkpgghnpeaaIyJ
import Derived.Test.YtjohfkpgghnpeaaIyK
section
namespace Go.Proofs.Ytjohfkpgghnpeaa.OpenKd
open Go Go.RowKit
open Go.Proofs.Ytjohfkpgghnpeaa.Open
open Go.Proofs.YtjohfkpgghnpeaaW.PrintWords
set_option linter.unusedVariables false
theorem C_of_sh {s : Sh} {α : Type} {W : World} (d : Kd α) (f : s.T → α) (hsz : d.sz = s.size) (hK : ∀ y, s.ok W y → d.K W (f y) (s.cells y)) (x : Sl s.T) (h : (Sh.sl s).ok W x) : d.C W x.A (x.l.map f).length (x.l.map f) := by
  obtain ⟨h1, h2, h3, h4, h5⟩ := h
  have hm : x.l.length ≤ 9223372036854775807 := by unfold maxLen at h2; omega
  refine ⟨rfl, by rw [List.length_map]; exact hm, fun hn => ?_⟩
  rw [List.length_map] at hn
  cases hA : x.A with
  | none => rw [(h3 hA).1] at hn; simp at hn
  | some a =>
    refine ⟨a, rfl, fun j p hj => ?_⟩
    rw [List.getElem?_map] at hj
    cases hy : x.l[j]? with
    | none => rw [hy] at hj; cases hj
    | some y =>
      rw [hy] at hj
      injection hj with hj
      subst hj
      refine ⟨s.cells y, by rw [hsz, Sh.cells_length], hK y (h5 y (List.mem_of_getElem? hy)), fun i u hu => ?_⟩
      rw [hsz]
      exact h4 a hA j y hy i u hu
end Go.Proofs.Ytjohfkpgghnpeaa.OpenKd
end
