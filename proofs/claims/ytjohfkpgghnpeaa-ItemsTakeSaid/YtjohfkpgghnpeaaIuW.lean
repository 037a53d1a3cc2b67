-- packed by pack.py, a program of this claim's repo
import Derived.Test.YtjohfkpgghnpeaaIuB
import Derived.Test.YtjohfkpgghnpeaaIuC
import Derived.Test.YtjohfkpgghnpeaaIuD
import Derived.Test.YtjohfkpgghnpeaaIuE
import Derived.Test.YtjohfkpgghnpeaaIuF
import Derived.Test.YtjohfkpgghnpeaaIuA
import Derived.Test.YtjohfkpgghnpeaaIuG
import Derived.Test.YtjohfkpgghnpeaaIuH
import Derived.Test.YtjohfkpgghnpeaaIuI
import Derived.Test.YtjohfkpgghnpeaaIuL
import Derived.Test.YtjohfkpgghnpeaaIuM
import Derived.Test.YtjohfkpgghnpeaaIuN
import Derived.Test.YtjohfkpgghnpeaaIuO
import Derived.Test.YtjohfkpgghnpeaaIuP
import Derived.Test.YtjohfkpgghnpeaaIuT
import Derived.Test.YtjohfkpgghnpeaaIuJ
import Derived.Test.YtjohfkpgghnpeaaIuQ
import Derived.Test.YtjohfkpgghnpeaaIuR
import Derived.Test.YtjohfkpgghnpeaaIuU
import Derived.Test.YtjohfkpgghnpeaaIuS
import Derived.Test.YtjohfkpgghnpeaaIuV
import Derived.Test.YtjohfkpgghnpeaaIuK
section
namespace Go.Proofs.Ytjohfkpgghnpeaa.PIT
open Go.RowKit Go.Proofs.YtjohfkpgghnpeaaW.PrintWords Go.Proofs.YtjohfkpgghnpeaaW.PrintLast Go.Proofs.YtjohfkpgghnpeaaW.PrintMore
attribute [local go_sem] max2_int min2_int max_two min_two
open Go.Proofs.Ytjohfkpgghnpeaa.Gv Go.Proofs.Ytjohfkpgghnpeaa.PNum Go.Proofs.Ytjohfkpgghnpeaa.PRef Go.Proofs.Ytjohfkpgghnpeaa.PTak
set_option linter.unusedVariables false
set_option linter.unusedSimpArgs false
end Go.Proofs.Ytjohfkpgghnpeaa.PIT
end
section
namespace Go.Proofs.Ytjohfkpgghnpeaa.ItmPr
open Go Go.RowKit
open Go.Proofs.Ytjohfkpgghnpeaa.Gen
open Go.Proofs.Ytjohfkpgghnpeaa.Num
open Go.Proofs.Ytjohfkpgghnpeaa.NumC
open Go.Proofs.Ytjohfkpgghnpeaa.ItemC
open Go.Proofs.Ytjohfkpgghnpeaa.Gv
open Go.Proofs.Ytjohfkpgghnpeaa.PNum
open Go.Proofs.Ytjohfkpgghnpeaa.NumPr
open Go.Proofs.Ytjohfkpgghnpeaa.PRef
open Go.Proofs.Ytjohfkpgghnpeaa.PTak
open Go.Proofs.Ytjohfkpgghnpeaa.PIT
open Go.Proofs.YtjohfkpgghnpeaaW.PrintWords Go.Proofs.YtjohfkpgghnpeaaW.PrintLast Go.Proofs.YtjohfkpgghnpeaaW.PrintMore
set_option linter.unusedVariables false
set_option maxHeartbeats 2000000 in
theorem take_law (l : List H) (hs : ∀ x ∈ l, x.f1.f1.size ≤ 9223372036854775807) (hv : ∀ x ∈ l, 0 ≤ x.f1.f0 ∧ x.f1.f0 < 18446744073709551616) (a : Int) (ha : -9223372036854775808 ≤ a ∧ a ≤ 9223372036854775807) (b : List UInt8) (hb : b.length ≤ 9223372036854775807) (k : Nat) (hk : 200 < k) :
    tarnlaw09_ItemsTake.f k l a (bs b) = some true := by
  have hn := near_length l
  obtain ⟨hq0, hq1⟩ := itemsP_len (nearL l)
  unfold tarnlaw09_ItemsTake.f
  rw [near_eq l hs k (by omega)]
  rw [Option.bind_some]
  rw [putall_eq (nearL l) (near_dom hv) (by omega) k (by omega)]
  rw [Option.bind_some]
  generalize itemsP (nearL l) = q at hq0 hq1
  rw [bs_size, bs_size, mn_eq, mn_eq, and1]
  have e1 : ∃ c : Nat, c < q.length ∧ Int.tmod (wrap64 (Int.tmod a (q.length : Int) + (q.length : Int))) (q.length : Int) = (c : Int) := by
    have h1 := Int.tmod_lt_of_pos a (b := (q.length : Int)) (by omega)
    have h2 := Int.lt_tmod_of_pos a (b := (q.length : Int)) (by omega)
    have h3 : wrap64 (Int.tmod a (q.length : Int) + (q.length : Int)) = Int.tmod a (q.length : Int) + (q.length : Int) := by unfold wrap64; omega
    rw [h3]
    have h4 := Int.tmod_lt_of_pos (Int.tmod a (q.length : Int) + (q.length : Int)) (b := (q.length : Int)) (by omega)
    have h5 := Int.tmod_nonneg (q.length : Int) (a := Int.tmod a (q.length : Int) + (q.length : Int)) (by omega)
    exact ⟨(Int.tmod (Int.tmod a (q.length : Int) + (q.length : Int)) (q.length : Int)).toNat, by omega, by omega⟩
  obtain ⟨c, hc, e1⟩ := e1
  rw [e1]
  clear e1
  have e2 : ∃ m : Nat, m ≤ 5 ∧ m ≤ b.length ∧ min (b.length : Int) 5 = (m : Int) := ⟨min b.length 5, by omega, by omega, by omega⟩
  obtain ⟨m, hm1, hm2, e2⟩ := e2
  rw [e2]
  clear e2
  have e3 : ∃ d : Nat, d ≤ q.length ∧ min (wrap64 ((c : Int) + (b.length : Int) % 2)) (q.length : Int) = (d : Int) := by
    have h3 : wrap64 ((c : Int) + (b.length : Int) % 2) = (c : Int) + (b.length : Int) % 2 := by unfold wrap64; omega
    rw [h3]
    exact ⟨min (c + b.length % 2) q.length, by omega, by omega⟩
  obtain ⟨d, hd, e3⟩ := e3
  rw [e3]
  clear e3
  have x1 : ((bs q).extract 0 ((c : Int)).toNat) = bs (q.take c) := by rw [bs_ext, Int.toNat_natCast, List.drop_zero, Nat.sub_zero]
  have x2 : ((bs b).extract 0 ((m : Int)).toNat) = bs (b.take m) := by rw [bs_ext, Int.toNat_natCast, List.drop_zero, Nat.sub_zero]
  have x3 : ((bs q).extract ((d : Int)).toNat q.length) = bs (q.drop d) := by rw [bs_ext, Int.toNat_natCast, List.take_of_length_le (by rw [List.length_drop]; omega)]
  rw [x1, x2, x3, bs_app, bs_app]
  have l1 : (q.take c).length ≤ 1000 := by rw [List.length_take]; omega
  have l2 : (b.take m).length ≤ 5 := by rw [List.length_take]; omega
  have l3 : (q.drop d).length ≤ 1000 := by rw [List.length_drop]; omega
  have y1 : ¬ (q.length : Int) = 0 := by omega
  have y2 : (0 : Int) ≤ (c : Int) := by omega
  have y3 : (c : Int) ≤ (q.length : Int) := by omega
  have y4 : (0 : Int) ≤ (m : Int) := by omega
  have y5 : (m : Int) ≤ (b.length : Int) := by omega
  have y6 : (bs (q.take c)).size + (bs (b.take m)).size ≤ 9223372036854775807 := by rw [bs_size, bs_size]; omega
  have y7 : (0 : Int) ≤ (d : Int) := by omega
  have y8 : (d : Int) ≤ (q.length : Int) := by omega
  have y9 : (bs (q.take c ++ b.take m)).size + (bs (q.drop d)).size ≤ 9223372036854775807 := by rw [bs_size, bs_size, List.length_append]; omega
  rw [if_neg y1, if_pos y2, if_pos y3, if_pos y4, if_pos y5, if_pos y6, if_pos y7, if_pos y8, if_pos y9, from_eq]
  rw [Option.bind_some]
  generalize hs' : q.take c ++ b.take m ++ q.drop d = s
  have hsl : s.length ≤ 140737488355328 := by rw [← hs', List.length_append, List.length_append]; omega
  have hst : St s ⟨s, 0⟩ := St.start hsl
  have t1 := takes_eq hst k (by omega)
  rw [at_start] at t1
  have t2 := rtakes_eq hst.ok k (by omega)
  have hil := items_len ⟨s, 0⟩ hst.ok
  have hsi : St s (itemsR ⟨s, 0⟩).1 := by
    unfold itemsR
    dsimp only
    split <;> exact st_steps _ (hst.int 64) _
  have t1' : items_Take.f k (bs s) 0 0 = some ((itemsR ⟨s, 0⟩).2, bs s, at_ s (itemsR ⟨s, 0⟩).1, ((itemsR ⟨s, 0⟩).1.err : Int)) := t1
  have t2' : tarnref09_TakeAll.f k (bs s) 0 = some (bs (itemsR ⟨s, 0⟩).1.s, ((itemsR ⟨s, 0⟩).1.err : Int), (itemsR ⟨s, 0⟩).2) := t2
  rw [t1']
  rw [Option.bind_some]
  rw [t2']
  rw [Option.bind_some]
  unfold tarnlaw09_awake.f
  rw [Option.bind_some]
  have t3 := same_eq (itemsR ⟨s, 0⟩).2 k (by omega) (by omega)
  rw [if_pos rfl, show tarnref09_Same.f k ((itemsR ⟨s, 0⟩).2, bs s, at_ s (itemsR ⟨s, 0⟩).1, ((itemsR ⟨s, 0⟩).1.err : Int)).1 (bs (itemsR ⟨s, 0⟩).1.s, ((itemsR ⟨s, 0⟩).1.err : Int), (itemsR ⟨s, 0⟩).2).2.2 = some true from t3]
  rw [Option.bind_some]
  rw [if_pos rfl, err_eq]
  rw [Option.bind_some]
  rw [if_pos rfl, left_eq hsi]
  rw [Option.bind_some]
  rw [bs_size]
  simp
end Go.Proofs.Ytjohfkpgghnpeaa.ItmPr
end
