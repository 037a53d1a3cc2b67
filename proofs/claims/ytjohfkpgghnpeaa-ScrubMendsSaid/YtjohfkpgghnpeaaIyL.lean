-- packed by pack.py, a program of this claim's repo
import Derived.Test.YtjohfkpgghnpeaaIyB
import Derived.Test.YtjohfkpgghnpeaaIyC
import Derived.Test.YtjohfkpgghnpeaaIyG
import Derived.Test.YtjohfkpgghnpeaaIyH
import Derived.Test.YtjohfkpgghnpeaaIyI
import Derived.Test.YtjohfkpgghnpeaaIyA
import Derived.Test.YtjohfkpgghnpeaaIyJ
import Derived.Test.YtjohfkpgghnpeaaIyK
import Derived.Test.YtjohfkpgghnpeaaProg
import Derived.Below
import Derived.Deep.Draws
import Derived.Deep.AppendLies
import Derived.Maps.AppendAt
import Derived.OwnWalk
import Derived.Laws.BytesArg
import Derived.Laws.MakeOwn
import Derived.Laws.OwnMore
import Derived.Deep.OwnRows
import Derived.Tactics
import Derived.Lib.ConvBytes
import Derived.Laws.Slices
import Derived.WalkKit
import Derived.KernelRfl
import Derived.RowKit3
import Derived.Deep.LoopGhost
import Derived.Deep.QuietTactic
import Derived.BigQuiet
import Derived.WideLaws
import Derived.Deep.DeepCutAuto
import Derived.Deep.CutBlock
import Derived.Deep.RegionHeld3
import Derived.Laws.Rows
import Derived.Lib.AppendStr
import Derived.ArgAppend
import Derived.Laws.IdiomCopy
import Derived.OrdersHeld
import Derived.Laws.BitsLemmas
import Derived.RowKit
section
namespace Go.Proofs.Ytjohfkpgghnpeaa.Gv
open Go Go.RowKit
open Go.Proofs.Ytjohfkpgghnpeaa.Gen
open Go.Proofs.Ytjohfkpgghnpeaa.Num
open Go.Proofs.Ytjohfkpgghnpeaa.NumC
open Go.Proofs.YtjohfkpgghnpeaaW.PrintWords
set_option linter.unusedVariables false
theorem mk_list (s : ByteArray) : (⟨s.data.toList.toArray⟩ : ByteArray) = s := by obtain ⟨⟨l⟩⟩ := s; rfl
theorem size_list (s : ByteArray) : s.data.toList.length = s.size := by obtain ⟨⟨l⟩⟩ := s; rfl
def num_Put.f (a0 : Int) : Option ByteArray := if 0 ≤ a0 ∧ a0 < 18446744073709551616 then some ⟨(put a0.toNat).toArray⟩ else none
def num_Word.f (a0 : Int) : Option ByteArray := if 0 ≤ a0 ∧ a0 < 4294967296 then some ⟨(word a0.toNat).toArray⟩ else none
def num_Text.f (a0 : ByteArray) : Option ByteArray := if a0.size ≤ 140737488351232 then some ⟨(text a0.data.toList).toArray⟩ else none
def num_List.f (l0 : List Int) : Option ByteArray := if l0.length ≤ 1000000000000 ∧ ∀ n ∈ l0, n ≤ 9223372036854775807 then some ⟨(list l0).toArray⟩ else none
def num_big.f (a0 : ByteArray) : Option Int := if a0.size ≤ 8 then some (value a0.data.toList : Int) else none
def tarnref01_Put.f (a0 : Int) : Option ByteArray := if 0 ≤ a0 ∧ a0 < 18446744073709551616 then some ⟨(put a0.toNat).toArray⟩ else none
def tarnref01_Word.f (a0 : Int) : Option ByteArray := if 0 ≤ a0 ∧ a0 < 4294967296 then some ⟨(word a0.toNat).toArray⟩ else none
def tarnref01_Text.f (a0 : ByteArray) : Option ByteArray := if a0.size ≤ 140737488351232 then some ⟨(text a0.data.toList).toArray⟩ else none
def tarnref01_List.f (l0 : List Int) : Option ByteArray := if l0.length ≤ 1000000000000 ∧ ∀ n ∈ l0, n ≤ 9223372036854775807 then some ⟨(list l0).toArray⟩ else none
end Go.Proofs.Ytjohfkpgghnpeaa.Gv
end
section
namespace Go.Proofs.Ytjohfkpgghnpeaa.PNum
open Go.RowKit Go.Proofs.YtjohfkpgghnpeaaW.PrintWords Go.Proofs.YtjohfkpgghnpeaaW.PrintLast Go.Proofs.YtjohfkpgghnpeaaW.PrintMore
open Go.Proofs.Ytjohfkpgghnpeaa.Gv
set_option linter.unusedVariables false
set_option linter.unusedSimpArgs false
def errW : Option Int → Value
  | none => .nilIface
  | some c => .iface 0 (.int .i64 c)
theorem errW_none : errW none = .nilIface := rfl
theorem errW_some (c : Int) : errW (some c) = .iface 0 (.int .i64 c) := rfl
end Go.Proofs.Ytjohfkpgghnpeaa.PNum
end
section
namespace Go.Proofs.Ytjohfkpgghnpeaa.PNum
open Go.RowKit Go.Proofs.YtjohfkpgghnpeaaW.PrintWords Go.Proofs.YtjohfkpgghnpeaaW.PrintLast Go.Proofs.YtjohfkpgghnpeaaW.PrintMore
open Go.Proofs.Ytjohfkpgghnpeaa.Gv
set_option linter.unusedVariables false
set_option linter.unusedSimpArgs false
def IsS104 (w0 W : World) (g : Nat) (f0 : ByteArray) (f1 : Int) (f2 : Int) : Prop := W.heap[g]? = some (.cells #[.string f0, .int .i64 f1, .int .i64 f2] 104 (0, 0)) ∧ w0.heap.size ≤ g
theorem IsS104.grown {w0 W : World} {g : Nat} {f0 : ByteArray} {f1 : Int} {f2 : Int} {W1 : World} {row : Option Nat} (h : IsS104 w0 W g f0 f1 f2) (hw : W.grownBy W1 row) (hne : some g ≠ row) : IsS104 w0 W1 g f0 f1 f2 := by
  obtain ⟨hb, hg⟩ := h
  exact ⟨blk_grown hb hw hne, hg⟩
theorem IsS104.below {w0 W : World} {g : Nat} {f0 : ByteArray} {f1 : Int} {f2 : Int} {W1 : World} (h : IsS104 w0 W g f0 f1 f2) (hw : Below W.heap.size W W1) : IsS104 w0 W1 g f0 f1 f2 := h.grown (grown_of_below hw none) (by simp)
theorem IsS104.alloc {w0 W : World} {g : Nat} {f0 : ByteArray} {f1 : Int} {f2 : Int} (h : IsS104 w0 W g f0 f1 f2) (o : Obj) : IsS104 w0 (W.alloc o) g f0 f1 f2 := h.below (below_alloc (Below.refl _ _) o)
theorem IsS104.drew {w0 W : World} {g : Nat} {f0 : ByteArray} {f1 : Int} {f2 : Int} (h : IsS104 w0 W g f0 f1 f2) : IsS104 w0 W.drew g f0 f1 f2 := h
def num_From.f (a0 : ByteArray) : Option (ByteArray × Int × Int) := some (a0, 0, 0)
def num_Source_Err.f (s0_0 : ByteArray) (s0_1 : Int) (s0_2 : Int) : Option (Int × ByteArray × Int × Int) := some (s0_2, s0_0, s0_1, s0_2)
def num_Source_Left.f (s0_0 : ByteArray) (s0_1 : Int) (s0_2 : Int) : Option (Int × ByteArray × Int × Int) := some (wrap64 ((s0_0.size : Int) - s0_1), s0_0, s0_1, s0_2)
def num_Source_Wrong.f (s0_0 : ByteArray) (s0_1 : Int) (s0_2 : Int) (a1 : Int) : Option (ByteArray × Int × Int) := if s0_2 = 0 then (if a1 = 0 then (some (s0_0, s0_1, s0_2)) else (some (s0_0, (s0_0.size : Int), a1))) else (some (s0_0, s0_1, s0_2))
def num_Source_Take.f (s0_0 : ByteArray) (s0_1 : Int) (s0_2 : Int) (a1 : Int) : Option (ByteArray × ByteArray × Int × Int) := if a1 < 0 then ((num_Source_Wrong.f s0_0 s0_1 s0_2 2).bind fun bt102 => (some ((⟨#[]⟩ : ByteArray), bt102.1, bt102.2.1, bt102.2.2))) else ((num_Source_Left.f s0_0 s0_1 s0_2).bind fun bt105 => (if a1 > bt105.1 then ((num_Source_Wrong.f bt105.2.1 bt105.2.2.1 bt105.2.2.2 2).bind fun bt109 => (some ((⟨#[]⟩ : ByteArray), bt109.1, bt109.2.1, bt109.2.2))) else (if 0 ≤ bt105.2.2.1 then (if bt105.2.2.1 ≤ (wrap64 (bt105.2.2.1 + a1)) then (if (wrap64 (bt105.2.2.1 + a1)) ≤ (bt105.2.1.size : Int) then (some (bt105.2.1.extract (bt105.2.2.1 : Int).toNat ((wrap64 (bt105.2.2.1 + a1)) : Int).toNat, bt105.2.1, wrap64 (bt105.2.2.1 + a1), bt105.2.2.2)) else (none)) else (none)) else (none))))
def num_width.l0 : Nat → Int → Int → Option (Int)
  | 0, _, _ => none
  | k + 1, x0, x3 => if x0 > 0 then (num_width.l0 k (x0 / 256) (wrap64 (x3 + 1))) else (some x3)
def num_width.f (k : Nat) (a0 : Int) : Option (Int) := num_width.l0 k a0 0
theorem num_width.mono_l : ∀ k, (∀ y0 y1, LeO (num_width.l0 k y0 y1) (num_width.l0 (k + 1) y0 y1))
  | 0 => fun _ _ r h => by simp [num_width.l0] at h
  | k + 1 => by
    have ih0 := num_width.mono_l k
    · intro y0 y1
      unfold num_width.l0
      repeat' first
      | (with_reducible exact ih0 _ _)
      | (with_reducible exact LeO.refl _)
      | (with_reducible exact LeO.none _)
      | (with_reducible refine LeO.ite ?_ ?_)
      | (with_reducible refine LeO.bind ?_ (fun _ => ?_))
      | exact ih0 _ _
      | exact LeO.none _
      | refine LeO.ite ?_ ?_
      | refine LeO.bind ?_ (fun _ => ?_)
theorem num_width.mono : ∀ a0 k, LeO (num_width.f k a0) (num_width.f (k + 1) a0) := by
  intro a0 k
  have ih0 := num_width.mono_l k
  unfold num_width.f
  repeat' first
      | (with_reducible exact ih0 _ _)
      | (with_reducible exact LeO.refl _)
      | (with_reducible exact LeO.none _)
      | (with_reducible refine LeO.ite ?_ ?_)
      | (with_reducible refine LeO.bind ?_ (fun _ => ?_))
      | exact ih0 _ _
      | exact LeO.none _
      | refine LeO.ite ?_ ?_
      | refine LeO.bind ?_ (fun _ => ?_)
def num_Source_Num.f (k : Nat) (s0_0 : ByteArray) (s0_1 : Int) (s0_2 : Int) (a1 : Int) : Option (Int × ByteArray × Int × Int) := (num_Source_Take.f s0_0 s0_1 s0_2 1).bind fun bt112 => (if bt112.1.toList = ([] : List UInt8) then (some (0, bt112.2.1, bt112.2.2.1, bt112.2.2.2)) else (if 0 < (bt112.1.size : Int) then (if (wrap64 (bt bt112.1 0)) > 8 then ((num_Source_Wrong.f bt112.2.1 bt112.2.2.1 bt112.2.2.2 3).bind fun bt116 => (some (0, bt116.1, bt116.2.1, bt116.2.2))) else ((num_Source_Take.f bt112.2.1 bt112.2.2.1 bt112.2.2.2 (wrap64 (bt bt112.1 0))).bind fun bt119 => ((num_big.f bt119.1).bind fun t123 => ((num_width.f k t123).bind fun t124 => (if t124 = (wrap64 (bt bt112.1 0)) then (if t123 > a1 then ((num_Source_Wrong.f bt119.2.1 bt119.2.2.1 bt119.2.2.2 3).bind fun bt125 => (some (0, bt125.1, bt125.2.1, bt125.2.2))) else (some (t123, bt119.2.1, bt119.2.2.1, bt119.2.2.2))) else ((num_Source_Wrong.f bt119.2.1 bt119.2.2.1 bt119.2.2.2 3).bind fun bt128 => (some (0, bt128.1, bt128.2.1, bt128.2.2)))))))) else (none)))
theorem num_Source_Num.mono : ∀ a0 a1 a2 a3 k, LeO (num_Source_Num.f k a0 a1 a2 a3) (num_Source_Num.f (k + 1) a0 a1 a2 a3) := by
  intro a0 a1 a2 a3 k
  unfold num_Source_Num.f
  repeat' first
      | (with_reducible exact num_width.mono _ _)
      | (with_reducible exact LeO.refl _)
      | (with_reducible exact LeO.none _)
      | (with_reducible refine LeO.ite ?_ ?_)
      | (with_reducible refine LeO.bind ?_ (fun _ => ?_))
      | exact num_width.mono _ _
      | exact LeO.none _
      | refine LeO.ite ?_ ?_
      | refine LeO.bind ?_ (fun _ => ?_)
def num_Source_Int.f (k : Nat) (s0_0 : ByteArray) (s0_1 : Int) (s0_2 : Int) (a1 : Int) : Option (Int × ByteArray × Int × Int) := (num_Source_Num.f k s0_0 s0_1 s0_2 (IntKind.u64.wrap (mx a1 0))).bind fun bt131 => (some (wrap64 (bt131.1), bt131.2.1, bt131.2.2.1, bt131.2.2.2))
theorem num_Source_Int.mono : ∀ a0 a1 a2 a3 k, LeO (num_Source_Int.f k a0 a1 a2 a3) (num_Source_Int.f (k + 1) a0 a1 a2 a3) := by
  intro a0 a1 a2 a3 k
  unfold num_Source_Int.f
  repeat' first
      | (with_reducible exact num_Source_Num.mono _ _ _ _ _)
      | (with_reducible exact LeO.refl _)
      | (with_reducible exact LeO.none _)
      | (with_reducible refine LeO.ite ?_ ?_)
      | (with_reducible refine LeO.bind ?_ (fun _ => ?_))
      | exact num_Source_Num.mono _ _ _ _ _
      | exact LeO.none _
      | refine LeO.ite ?_ ?_
      | refine LeO.bind ?_ (fun _ => ?_)
def num_Source_Text.f (k : Nat) (s0_0 : ByteArray) (s0_1 : Int) (s0_2 : Int) (a1 : Int) : Option (ByteArray × ByteArray × Int × Int) := (num_Source_Int.f k s0_0 s0_1 s0_2 (mn a1 65536)).bind fun bt135 => ((num_Source_Take.f bt135.2.1 bt135.2.2.1 bt135.2.2.2 bt135.1).bind fun bt139 => (some (bt139.1, bt139.2.1, bt139.2.2.1, bt139.2.2.2)))
theorem num_Source_Text.mono : ∀ a0 a1 a2 a3 k, LeO (num_Source_Text.f k a0 a1 a2 a3) (num_Source_Text.f (k + 1) a0 a1 a2 a3) := by
  intro a0 a1 a2 a3 k
  unfold num_Source_Text.f
  repeat' first
      | (with_reducible exact num_Source_Int.mono _ _ _ _ _)
      | (with_reducible exact LeO.refl _)
      | (with_reducible exact LeO.none _)
      | (with_reducible refine LeO.ite ?_ ?_)
      | (with_reducible refine LeO.bind ?_ (fun _ => ?_))
      | exact num_Source_Int.mono _ _ _ _ _
      | exact LeO.none _
      | refine LeO.ite ?_ ?_
      | refine LeO.bind ?_ (fun _ => ?_)
def num_Source_End.f (s0_0 : ByteArray) (s0_1 : Int) (s0_2 : Int) : Option (Int × ByteArray × Int × Int) := (num_Source_Left.f s0_0 s0_1 s0_2).bind fun bt143 => (if bt143.1 > 0 then ((num_Source_Wrong.f bt143.2.1 bt143.2.2.1 bt143.2.2.2 3).bind fun bt147 => ((num_Source_Err.f bt147.1 bt147.2.1 bt147.2.2).bind fun bt150 => (some (bt150.1, bt150.2.1, bt150.2.2.1, bt150.2.2.2)))) else ((num_Source_Err.f bt143.2.1 bt143.2.2.1 bt143.2.2.2).bind fun bt154 => (some (bt154.1, bt154.2.1, bt154.2.2.1, bt154.2.2.2))))
def tarnref01_R_Fail.f (a0_0 : ByteArray) (a0_1 : Int) (a1 : Int) : Option (ByteArray × Int) := if a0_1 = 0 then (if a1 = 0 then (some (a0_0, a0_1)) else (some ((⟨#[]⟩ : ByteArray), a1))) else (some (a0_0, a0_1))
def tarnref01_R_Take.f (a0_0 : ByteArray) (a0_1 : Int) (a1 : Int) : Option (ByteArray × Int × ByteArray) := if a1 < 0 then ((tarnref01_R_Fail.f a0_0 a0_1 2).bind fun bt162 => (some (bt162.1, bt162.2, (⟨#[]⟩ : ByteArray)))) else (if a1 > (a0_0.size : Int) then ((tarnref01_R_Fail.f a0_0 a0_1 2).bind fun bt164 => (some (bt164.1, bt164.2, (⟨#[]⟩ : ByteArray)))) else (if 0 ≤ a1 then (if a1 ≤ (a0_0.size : Int) then (some (a0_0.extract (a1 : Int).toNat a0_0.size, a0_1, a0_0.extract 0 (a1 : Int).toNat)) else (none)) else (none)))
def tarnref01_R_Take.T3 : Bool × List (List Nat × List Nat) := (true, [([], []), ([0], [0]), ([], []), ([1, 2], [1, 2]), ([], []), ([4], [4]), ([3, 5], [3, 5]), ([], []), ([7], [7]), ([], []), ([8, 9], [8, 9]), ([6, 0, 1, 2, 3, 4, 5, 6], [6]), ([10, 11, 0, 1, 2, 3, 4, 5, 6, 7, 8, 9, 10, 11], [10])])
def tarnref01_R_Take.B3 : List Nat := [0, 1, 0, 7, 0, 16, 63, 0, 128, 0, 896, 127, 4095]
end Go.Proofs.Ytjohfkpgghnpeaa.PNum
end
section
namespace Go.Proofs.Ytjohfkpgghnpeaa.PNum
open Go.RowKit Go.Proofs.YtjohfkpgghnpeaaW.PrintWords Go.Proofs.YtjohfkpgghnpeaaW.PrintLast Go.Proofs.YtjohfkpgghnpeaaW.PrintMore
open Go.Proofs.Ytjohfkpgghnpeaa.Gv
set_option linter.unusedVariables false
set_option linter.unusedSimpArgs false
def tarnref01_value.l0 : Nat → ByteArray → Int → Int → Option (Int)
  | 0, _, _, _ => none
  | k + 1, x0, x3, x4 => if x4 < (x0.size : Int) then (if 0 ≤ x4 then (tarnref01_value.l0 k x0 (IntKind.u64.wrap ((IntKind.u64.wrap (x3 * 256)) + (IntKind.u64.wrap (bt x0 x4)))) (wrap64 (x4 + 1))) else (none)) else (some x3)
def tarnref01_value.f (k : Nat) (a0 : ByteArray) : Option (Int) := tarnref01_value.l0 k a0 0 0
theorem tarnref01_value.mono_l : ∀ k, (∀ y0 y1 y2, LeO (tarnref01_value.l0 k y0 y1 y2) (tarnref01_value.l0 (k + 1) y0 y1 y2))
  | 0 => fun _ _ _ r h => by simp [tarnref01_value.l0] at h
  | k + 1 => by
    have ih0 := tarnref01_value.mono_l k
    · intro y0 y1 y2
      unfold tarnref01_value.l0
      repeat' first
      | (with_reducible exact ih0 _ _ _)
      | (with_reducible exact LeO.refl _)
      | (with_reducible exact LeO.none _)
      | (with_reducible refine LeO.ite ?_ ?_)
      | (with_reducible refine LeO.bind ?_ (fun _ => ?_))
      | exact ih0 _ _ _
      | exact LeO.none _
      | refine LeO.ite ?_ ?_
      | refine LeO.bind ?_ (fun _ => ?_)
theorem tarnref01_value.mono : ∀ a0 k, LeO (tarnref01_value.f k a0) (tarnref01_value.f (k + 1) a0) := by
  intro a0 k
  have ih0 := tarnref01_value.mono_l k
  unfold tarnref01_value.f
  repeat' first
      | (with_reducible exact ih0 _ _ _)
      | (with_reducible exact LeO.refl _)
      | (with_reducible exact LeO.none _)
      | (with_reducible refine LeO.ite ?_ ?_)
      | (with_reducible refine LeO.bind ?_ (fun _ => ?_))
      | exact ih0 _ _ _
      | exact LeO.none _
      | refine LeO.ite ?_ ?_
      | refine LeO.bind ?_ (fun _ => ?_)
def tarnref01_R_Num.j0 : Nat → ByteArray → Bool → ByteArray → Int → Option (ByteArray × Int × Int)
  | 0, _, _, _, _ => none
  | k + 1, x8, x46, x172000, x172001 => if x46 = true then ((tarnref01_R_Fail.f x172000 x172001 3).bind fun bt179 => (some (bt179.1, bt179.2, 0))) else ((tarnref01_value.f k x8).bind fun t181 => (some (x172000, x172001, t181)))
def tarnref01_R_Num.f (k : Nat) (a0_0 : ByteArray) (a0_1 : Int) (a1 : Int) : Option (ByteArray × Int × Int) := (tarnref01_R_Take.f a0_0 a0_1 1).bind fun bt168 => (if bt168.2.2.toList = ([] : List UInt8) then (some (bt168.1, bt168.2.1, 0)) else (if 0 < (bt168.2.2.size : Int) then (if (bt bt168.2.2 0) > 8 then ((tarnref01_R_Fail.f bt168.1 bt168.2.1 3).bind fun bt172 => (some (bt172.1, bt172.2, 0))) else ((tarnref01_R_Take.f bt168.1 bt168.2.1 (wrap64 (bt bt168.2.2 0))).bind fun bt174 => (if bt174.2.1 = 0 then (if bt174.2.2.toList = ([] : List UInt8) then ((tarnref01_value.f k bt174.2.2).bind fun t177 => (tarnref01_R_Num.j0 k bt174.2.2 (decide (t177 > a1)) bt174.1 bt174.2.1)) else (if 0 < (bt174.2.2.size : Int) then (if (bt bt174.2.2 0) = 0 then (tarnref01_R_Num.j0 k bt174.2.2 true bt174.1 bt174.2.1) else ((tarnref01_value.f k bt174.2.2).bind fun t178 => (tarnref01_R_Num.j0 k bt174.2.2 (decide (t178 > a1)) bt174.1 bt174.2.1))) else (none))) else (some (bt174.1, bt174.2.1, 0))))) else (none)))
theorem tarnref01_R_Num.mono_l : ∀ k, (∀ y0 y1 y2 y3, LeO (tarnref01_R_Num.j0 k y0 y1 y2 y3) (tarnref01_R_Num.j0 (k + 1) y0 y1 y2 y3))
  | 0 => fun _ _ _ _ r h => by simp [tarnref01_R_Num.j0] at h
  | k + 1 => by
    have ih0 := tarnref01_R_Num.mono_l k
    · intro y0 y1 y2 y3
      unfold tarnref01_R_Num.j0
      repeat' first
      | (with_reducible exact ih0 _ _ _ _)
      | (with_reducible exact tarnref01_value.mono _ _)
      | (with_reducible exact LeO.refl _)
      | (with_reducible exact LeO.none _)
      | (with_reducible refine LeO.ite ?_ ?_)
      | (with_reducible refine LeO.bind ?_ (fun _ => ?_))
      | exact ih0 _ _ _ _
      | exact tarnref01_value.mono _ _
      | exact LeO.none _
      | refine LeO.ite ?_ ?_
      | refine LeO.bind ?_ (fun _ => ?_)
theorem tarnref01_R_Num.mono : ∀ a0 a1 a2 k, LeO (tarnref01_R_Num.f k a0 a1 a2) (tarnref01_R_Num.f (k + 1) a0 a1 a2) := by
  intro a0 a1 a2 k
  have ih0 := tarnref01_R_Num.mono_l k
  unfold tarnref01_R_Num.f
  repeat' first
      | (with_reducible exact ih0 _ _ _ _)
      | (with_reducible exact tarnref01_value.mono _ _)
      | (with_reducible exact LeO.refl _)
      | (with_reducible exact LeO.none _)
      | (with_reducible refine LeO.ite ?_ ?_)
      | (with_reducible refine LeO.bind ?_ (fun _ => ?_))
      | exact ih0 _ _ _ _
      | exact tarnref01_value.mono _ _
      | exact LeO.none _
      | refine LeO.ite ?_ ?_
      | refine LeO.bind ?_ (fun _ => ?_)
def tarnref01_R_Num.T6 : Bool × List (List Nat × List Nat) := (true, [([], []), ([], []), ([1], [1]), ([2], [2]), ([0, 3], [0, 3]), ([4], [4]), ([5], [5]), ([5], [5]), ([6, 4, 0, 1, 2, 3, 4, 5, 6], [6]), ([7, 8, 0, 1, 2, 3, 4, 5, 6, 7, 8], [7])])
def tarnref01_R_Num.B6 : List Nat := [0, 0, 2, 6, 15, 31, 63, 63, 127, 511]
def tarnref01_R_Int.f (k : Nat) (a0_0 : ByteArray) (a0_1 : Int) (a1 : Int) : Option (ByteArray × Int × Int) := if a1 > 0 then ((tarnref01_R_Num.f k a0_0 a0_1 (IntKind.u64.wrap (a1))).bind fun bt184 => (some (bt184.1, bt184.2.1, wrap64 (bt184.2.2)))) else ((tarnref01_R_Num.f k a0_0 a0_1 0).bind fun bt188 => (some (bt188.1, bt188.2.1, wrap64 (bt188.2.2))))
theorem tarnref01_R_Int.mono : ∀ a0 a1 a2 k, LeO (tarnref01_R_Int.f k a0 a1 a2) (tarnref01_R_Int.f (k + 1) a0 a1 a2) := by
  intro a0 a1 a2 k
  unfold tarnref01_R_Int.f
  repeat' first
      | (with_reducible exact tarnref01_R_Num.mono _ _ _ _)
      | (with_reducible exact LeO.refl _)
      | (with_reducible exact LeO.none _)
      | (with_reducible refine LeO.ite ?_ ?_)
      | (with_reducible refine LeO.bind ?_ (fun _ => ?_))
      | exact tarnref01_R_Num.mono _ _ _ _
      | exact LeO.none _
      | refine LeO.ite ?_ ?_
      | refine LeO.bind ?_ (fun _ => ?_)
def tarnref01_R_Text.f (k : Nat) (a0_0 : ByteArray) (a0_1 : Int) (a1 : Int) : Option (ByteArray × Int × ByteArray) := (tarnref01_R_Int.f k a0_0 a0_1 (mn a1 65536)).bind fun bt194 => ((tarnref01_R_Take.f bt194.1 bt194.2.1 bt194.2.2).bind fun bt198 => (some (bt198.1, bt198.2.1, bt198.2.2)))
theorem tarnref01_R_Text.mono : ∀ a0 a1 a2 k, LeO (tarnref01_R_Text.f k a0 a1 a2) (tarnref01_R_Text.f (k + 1) a0 a1 a2) := by
  intro a0 a1 a2 k
  unfold tarnref01_R_Text.f
  repeat' first
      | (with_reducible exact tarnref01_R_Int.mono _ _ _ _)
      | (with_reducible exact LeO.refl _)
      | (with_reducible exact LeO.none _)
      | (with_reducible refine LeO.ite ?_ ?_)
      | (with_reducible refine LeO.bind ?_ (fun _ => ?_))
      | exact tarnref01_R_Int.mono _ _ _ _
      | exact LeO.none _
      | refine LeO.ite ?_ ?_
      | refine LeO.bind ?_ (fun _ => ?_)
end Go.Proofs.Ytjohfkpgghnpeaa.PNum
end
section
namespace Go.Proofs.Ytjohfkpgghnpeaa.PNum
open Go.RowKit Go.Proofs.YtjohfkpgghnpeaaW.PrintWords Go.Proofs.YtjohfkpgghnpeaaW.PrintLast Go.Proofs.YtjohfkpgghnpeaaW.PrintMore
open Go.Proofs.Ytjohfkpgghnpeaa.Gv
set_option linter.unusedVariables false
set_option linter.unusedSimpArgs false
end Go.Proofs.Ytjohfkpgghnpeaa.PNum
end
section
namespace Go.Proofs.Ytjohfkpgghnpeaa.NumPr
open Go Go.RowKit
open Go.Proofs.Ytjohfkpgghnpeaa.Num
open Go.Proofs.Ytjohfkpgghnpeaa.NumC
open Go.Proofs.Ytjohfkpgghnpeaa.Gv
open Go.Proofs.Ytjohfkpgghnpeaa.PNum
open Go.Proofs.YtjohfkpgghnpeaaW.PrintWords Go.Proofs.YtjohfkpgghnpeaaW.PrintLast Go.Proofs.YtjohfkpgghnpeaaW.PrintMore
set_option linter.unusedVariables false
@[reducible] def bs (l : List UInt8) : ByteArray := ⟨l.toArray⟩
theorem bs_size (l : List UInt8) : (bs l).size = l.length := size_mk l
def at_ (all : List UInt8) (r : R) : Int := (all.length : Int) - (r.s.length : Int)
structure St (all : List UInt8) (r : R) : Prop where
  suf : r.s <:+ all
  ok : r.ok
  len : all.length ≤ 140737488355328
theorem St.fail {all : List UInt8} {r : R} (h : St all r) (e : Nat) : St all (r.fail e) := by
  refine ⟨?_, R.fail_ok h.ok e, h.len⟩
  unfold R.fail
  split
  · exact List.nil_suffix
  · exact h.suf
theorem St.take {all : List UInt8} {r : R} (h : St all r) (n : Int) : St all (r.take n).1 := by
  refine ⟨?_, R.take_ok h.ok n, h.len⟩
  unfold R.take
  split
  · exact (h.fail 2).suf
  · exact (List.drop_suffix _ _).trans h.suf
theorem St.num {all : List UInt8} {r : R} (h : St all r) (n : Nat) : St all (r.num n).1 := by
  unfold R.num
  split
  · exact h.take 1
  · split
    · exact (h.take 1).fail 3
    · dsimp only
      split
      · exact (h.take 1).take _
      · split
        · exact ((h.take 1).take _).fail 3
        · exact (h.take 1).take _
theorem St.int {all : List UInt8} {r : R} (h : St all r) (n : Int) : St all (r.int n).1 := h.num _
end Go.Proofs.Ytjohfkpgghnpeaa.NumPr
end
