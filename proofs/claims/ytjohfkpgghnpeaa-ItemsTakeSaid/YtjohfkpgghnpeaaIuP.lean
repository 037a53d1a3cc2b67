-- packed by pack.py, a program of this claim's repo
import Derived.Test.YtjohfkpgghnpeaaIuB
import Derived.Test.YtjohfkpgghnpeaaIuC
import Derived.Test.YtjohfkpgghnpeaaIuD
import Derived.Test.YtjohfkpgghnpeaaIuE
import Derived.Test.YtjohfkpgghnpeaaIuF
import Derived.Test.YtjohfkpgghnpeaaIuL
import Derived.Test.YtjohfkpgghnpeaaIuM
import Derived.Test.YtjohfkpgghnpeaaIuN
import Derived.Test.YtjohfkpgghnpeaaIuO
import Derived.Test.YtjohfkpgghnpeaaIuA
import Derived.Test.YtjohfkpgghnpeaaIuG
import Derived.Test.YtjohfkpgghnpeaaIuH
import Derived.Test.YtjohfkpgghnpeaaIuI
import Derived.Test.YtjohfkpgghnpeaaIuJ
import Derived.Test.YtjohfkpgghnpeaaProg
import Derived.Below
import Derived.Deep.Draws
import Derived.Deep.AppendLies
import Derived.Maps.AppendAt
import Derived.OwnWalk
import Derived.Laws.BytesArg
import Derived.Laws.MakeOwn
import Derived.Laws.OwnMore
import Derived.Deep.OwnRows
import Derived.Tactics
import Derived.Lib.ConvBytes
import Derived.Laws.Slices
import Derived.WalkKit
import Derived.KernelRfl
import Derived.RowKit3
import Derived.Deep.LoopGhost
import Derived.Deep.QuietTactic
import Derived.BigQuiet
import Derived.WideLaws
import Derived.Deep.DeepCutAuto
import Derived.Deep.CutBlock
import Derived.Deep.RegionHeld3
import Derived.Laws.Rows
import Derived.Lib.AppendStr
import Derived.ArgAppend
import Derived.Laws.IdiomCopy
import Derived.OrdersHeld
import Derived.Laws.BitsLemmas
import Derived.RowKit
section
namespace Go.Proofs.Ytjohfkpgghnpeaa.Gv
open Go Go.RowKit
open Go.Proofs.Ytjohfkpgghnpeaa.Gen
open Go.Proofs.Ytjohfkpgghnpeaa.Num
open Go.Proofs.Ytjohfkpgghnpeaa.ItemC
set_option linter.unusedVariables false
def item_May.f (a0_0 : Int) (a0_1 : ByteArray) : Option Bool := if a0_1.size ≤ 140737488355328 then some (mayB a0_1.data.toList) else none
theorem item_May.calls (a0_0 : Int) (a0_1 : ByteArray) (r : Bool) (w : World) (h : item_May.f a0_0 a0_1 = some r) : Calls Try.prog 62 #[.agg #[.int .u64 a0_0, .string a0_1]] w fun e w' => e = .returned (.bool r) ∧ Below w.heap.size w w' := by
  unfold item_May.f at h
  split at h
  · rename_i hb
    injection h with h
    subst h
    have := may_any a0_0 a0_1.data.toList (by rw [size_list]; exact hb) w
    rwa [mk_list] at this
  · cases h
def tarnref08_May.f (a0_0 : Int) (a0_1 : ByteArray) : Option Bool := if a0_1.size ≤ 140737488355328 then some (mayB a0_1.data.toList) else none
theorem tarnref08_May.calls (a0_0 : Int) (a0_1 : ByteArray) (r : Bool) (w : World) (h : tarnref08_May.f a0_0 a0_1 = some r) : Calls Try.prog 59 #[.agg #[.int .u64 a0_0, .string a0_1]] w fun e w' => e = .returned (.bool r) ∧ Below w.heap.size w w' := by
  unfold tarnref08_May.f at h
  split at h
  · rename_i hb
    injection h with h
    subst h
    have := refmay_any a0_0 a0_1.data.toList (by rw [size_list]; exact hb) w
    rwa [mk_list] at this
  · cases h
def item_Put.f (a0_0 : Int) (a0_1 : ByteArray) : Option ByteArray := if 0 ≤ a0_0 ∧ a0_0 < 18446744073709551616 ∧ a0_1.size ≤ 140737488355328 then some ⟨(itemP a0_0.toNat a0_1.data.toList).toArray⟩ else none
theorem item_Put.calls (a0_0 : Int) (a0_1 : ByteArray) (r : ByteArray) (w : World) (h : item_Put.f a0_0 a0_1 = some r) : Calls Try.prog 77 #[.agg #[.int .u64 a0_0, .string a0_1]] w fun e w' => e = .returned (.string r) ∧ Below w.heap.size w w' := by
  unfold item_Put.f at h
  split at h
  · rename_i hb
    obtain ⟨n, rfl⟩ : ∃ n : Nat, a0_0 = n := ⟨a0_0.toNat, by omega⟩
    injection h with h
    subst h
    have := iput_any n (by omega) a0_1.data.toList (by rw [size_list]; exact hb.2.2) w
    rwa [mk_list] at this
  · cases h
def tarnref08_Put.f (a0_0 : Int) (a0_1 : ByteArray) : Option ByteArray := if 0 ≤ a0_0 ∧ a0_0 < 18446744073709551616 ∧ a0_1.size ≤ 140737488355328 then some ⟨(itemP a0_0.toNat a0_1.data.toList).toArray⟩ else none
theorem tarnref08_Put.calls (a0_0 : Int) (a0_1 : ByteArray) (r : ByteArray) (w : World) (h : tarnref08_Put.f a0_0 a0_1 = some r) : Calls Try.prog 69 #[.agg #[.int .u64 a0_0, .string a0_1]] w fun e w' => e = .returned (.string r) ∧ Below w.heap.size w w' := by
  unfold tarnref08_Put.f at h
  split at h
  · rename_i hb
    obtain ⟨n, rfl⟩ : ∃ n : Nat, a0_0 = n := ⟨a0_0.toNat, by omega⟩
    injection h with h
    subst h
    have := refiput_any n (by omega) a0_1.data.toList (by rw [size_list]; exact hb.2.2) w
    rwa [mk_list] at this
  · cases h
def tarnlaw08_Near.f (a0_0 : Int) (a0_1 : ByteArray) (a1 : Int) : Option (Int × ByteArray) := if a0_1.size ≤ 9223372036854775807 then some (a0_0, ⟨(nearD a0_1.data.toList (a1 % 8)).toArray⟩) else none
theorem tarnlaw08_Near.calls (a0_0 : Int) (a0_1 : ByteArray) (a1 : Int) (r1 : Int) (r2 : ByteArray) (w : World) (h : tarnlaw08_Near.f a0_0 a0_1 a1 = some (r1, r2)) :
    Calls Try.prog 20 #[.agg #[.int .u64 a0_0, .string a0_1], .int .i64 a1] w fun e w' => e = .returned (.agg #[.int .u64 r1, .string r2]) ∧ Below w.heap.size w w' := by
  unfold tarnlaw08_Near.f at h
  split at h
  · rename_i hb
    injection h with h
    injection h with h1 h2
    subst h1
    subst h2
    have := near_any a0_0 a0_1.data.toList (by rw [size_list]; exact hb) a1 w
    rwa [mk_list] at this
  · cases h
end Go.Proofs.Ytjohfkpgghnpeaa.Gv
end
section
namespace Go.Proofs.Ytjohfkpgghnpeaa.PRef
open Go.RowKit Go.Proofs.YtjohfkpgghnpeaaW.PrintWords Go.Proofs.YtjohfkpgghnpeaaW.PrintLast Go.Proofs.YtjohfkpgghnpeaaW.PrintMore
attribute [local go_sem] max2_int min2_int max_two min_two
open Go.Proofs.Ytjohfkpgghnpeaa.Gv Go.Proofs.Ytjohfkpgghnpeaa.PNum
set_option linter.unusedVariables false
set_option linter.unusedSimpArgs false
def errW : Option Int → Value
  | none => .nilIface
  | some c => .iface 0 (.int .i64 c)
theorem errW_none : errW none = .nilIface := rfl
theorem errW_some (c : Int) : errW (some c) = .iface 0 (.int .i64 c) := rfl
theorem info30 : (Try.prog.info? 30).map (fun i => (i.zero, i.size, i.bytes)) = some (some (.agg #[(.int .i64 0), (.int .u64 0), (.string ⟨#[]⟩)]), 3, 32) := by kernel_rfl
structure S28 where
  f0 : Int
  f1 : ByteArray
def z28 : S28 := ⟨(0 : Int), (⟨#[]⟩ : ByteArray)⟩
def k28 : Kd S28 := Kd.iso (Kd.pair (Kd.int .u64) Kd.string) (fun x : S28 => (x.f0, x.f1))
theorem k28_open {w : World} {x : S28} {cs : List Value} (h : k28.K w x cs) : cs = [.int .u64 x.f0, .string x.f1] := by
  obtain ⟨_, _, rfl, rfl, rfl⟩ := h
  exact rfl
theorem k28_mk (w : World) (x : S28)  : k28.K w x [.int .u64 x.f0, .string x.f1] := ⟨[.int .u64 x.f0], [.string x.f1], rfl, rfl, rfl⟩
theorem k28_mkM (w : World) (base : Nat) (ok : Nat → Prop) (x : S28)  : k28.M w base ok x [.int .u64 x.f0, .string x.f1] := ⟨[.int .u64 x.f0], [.string x.f1], rfl, rfl, rfl⟩
def rd_T28 (xs : List S28) (i : Int) : S28 := xs.getD i.toNat z28
structure S30 where
  f0 : Int
  f1 : S28
def z30 : S30 := ⟨(0 : Int), z28⟩
def k30 : Kd S30 := Kd.iso (Kd.pair (Kd.int .i64) k28) (fun x : S30 => (x.f0, x.f1))
theorem k30_open {w : World} {x : S30} {cs : List Value} (h : k30.K w x cs) : cs = [.int .i64 x.f0, .int .u64 x.f1.f0, .string x.f1.f1] := by
  obtain ⟨_, _, rfl, rfl, s1⟩ := h
  obtain rfl := k28_open s1
  exact rfl
theorem k30_mk (w : World) (x : S30)  : k30.K w x [.int .i64 x.f0, .int .u64 x.f1.f0, .string x.f1.f1] := ⟨[.int .i64 x.f0], [.int .u64 x.f1.f0, .string x.f1.f1], rfl, rfl, (k28_mk w x.f1 )⟩
theorem k30_mkM (w : World) (base : Nat) (ok : Nat → Prop) (x : S30)  : k30.M w base ok x [.int .i64 x.f0, .int .u64 x.f1.f0, .string x.f1.f1] := ⟨[.int .i64 x.f0], [.int .u64 x.f1.f0, .string x.f1.f1], rfl, rfl, (k28_mkM w base ok x.f1 )⟩
def rd_T30 (xs : List S30) (i : Int) : S30 := xs.getD i.toNat z30
theorem at_T30 {w : World} {A : Option Addr} {n : Nat} {xs : List S30} (h : Kd.C k30 w A n xs) (i : Int) (h0 : 0 ≤ i) (h1 : i < n) : ∃ ad , A = some ad ∧ w.cell? (ad.add (i.toNat * 3)) = some (.int .i64 (rd_T30 xs i).f0) ∧ w.cell? ⟨(ad.add (i.toNat * 3)).block, (ad.add (i.toNat * 3)).off + 1, none⟩ = some (.int .u64 (rd_T30 xs i).f1.f0) ∧ w.cell? ⟨(ad.add (i.toNat * 3)).block, (ad.add (i.toNat * 3)).off + 2, none⟩ = some (.string (rd_T30 xs i).f1.f1) := by
  obtain ⟨ad, c, e, _, hK, hc0⟩ := Kd.C_get h z30 i h0 h1
  have hc : ∀ j u, c[j]? = some u → w.cell? (ad.add (i.toNat * 3 + j)) = some u := hc0
  obtain rfl := k30_open hK
  exact ⟨ad, e, hc 0 _ rfl, by rw [← add_field _ _ 1 (by omega)]; exact hc 1 _ rfl, by rw [← add_field _ _ 2 (by omega)]; exact hc 2 _ rfl⟩
end Go.Proofs.Ytjohfkpgghnpeaa.PRef
end
section
namespace Go.Proofs.Ytjohfkpgghnpeaa.PRef
open Go.RowKit Go.Proofs.YtjohfkpgghnpeaaW.PrintWords Go.Proofs.YtjohfkpgghnpeaaW.PrintLast Go.Proofs.YtjohfkpgghnpeaaW.PrintMore
attribute [local go_sem] max2_int min2_int max_two min_two
open Go.Proofs.Ytjohfkpgghnpeaa.Gv Go.Proofs.Ytjohfkpgghnpeaa.PNum
set_option linter.unusedVariables false
set_option linter.unusedSimpArgs false
theorem eqA28 (d : Nat) (w : World) (x0 y0 : Int) (x1 y1 : ByteArray) :
    (Op.equalIn (d + 2) 28 (.agg #[.int .u64 x0, .string x1]) (.agg #[.int .u64 y0, .string y1])).run Try.prog w = .ok (x0 == y0 && (x1.toList == y1.toList)) w := by
  refine eqA_of Try.underlying28 (by kernel_rfl) ?_
  refine eqf_cons (by rfl) (by go_simp; rfl) (by go_simp; rfl) (by go_simp) ?_
  exact eqf_last (by rfl) (by go_simp; rfl) (by go_simp; rfl) (by go_simp)
theorem eqA30 (d : Nat) (w : World) (x0 y0 : Int) (x1 y1 : Int) (x2 y2 : ByteArray) :
    (Op.equalIn (d + 3) 30 (.agg #[.int .i64 x0, .int .u64 x1, .string x2]) (.agg #[.int .i64 y0, .int .u64 y1, .string y2])).run Try.prog w = .ok (x0 == y0 && ((x1 == y1 && (x2.toList == y2.toList)))) w := by
  refine eqA_of Try.underlying30 (by kernel_rfl) ?_
  refine eqf_cons (by rfl) (by go_simp; rfl) (by go_simp; rfl) (by go_simp) ?_
  exact eqf_last (by rfl) (by go_simp) (by go_simp) (eqA28 (d + 0) w _ _ _ _)
end Go.Proofs.Ytjohfkpgghnpeaa.PRef
end
section
namespace Go.Proofs.Ytjohfkpgghnpeaa.PRef
open Go.RowKit Go.Proofs.YtjohfkpgghnpeaaW.PrintWords Go.Proofs.YtjohfkpgghnpeaaW.PrintLast Go.Proofs.YtjohfkpgghnpeaaW.PrintMore
attribute [local go_sem] max2_int min2_int max_two min_two
open Go.Proofs.Ytjohfkpgghnpeaa.Gv Go.Proofs.Ytjohfkpgghnpeaa.PNum
set_option linter.unusedVariables false
set_option linter.unusedSimpArgs false
def tarnref09_Get.l0 : Nat → List (S30) → Int → Int → Option (Int × ByteArray × Bool)
  | 0, _, _, _ => none
  | k + 1, x0, x1, x6 => if x6 < (x0.length : Int) then (if 0 ≤ x6 then (if ((rd_T30 x0 x6).f0) = x1 then (some ((rd_T30 x0 x6).f1.f0, (rd_T30 x0 x6).f1.f1, true)) else (tarnref09_Get.l0 k x0 x1 (wrap64 (x6 + 1)))) else (none)) else (some (0, (⟨#[]⟩ : ByteArray), false))
def tarnref09_Get.f (k : Nat) (l0 : List (S30)) (a1 : Int) : Option (Int × ByteArray × Bool) := tarnref09_Get.l0 k l0 a1 0
end Go.Proofs.Ytjohfkpgghnpeaa.PRef
end
section
namespace Go.Proofs.Ytjohfkpgghnpeaa.PRef
open Go.RowKit Go.Proofs.YtjohfkpgghnpeaaW.PrintWords Go.Proofs.YtjohfkpgghnpeaaW.PrintLast Go.Proofs.YtjohfkpgghnpeaaW.PrintMore
attribute [local go_sem] max2_int min2_int max_two min_two
open Go.Proofs.Ytjohfkpgghnpeaa.Gv Go.Proofs.Ytjohfkpgghnpeaa.PNum
set_option linter.unusedVariables false
set_option linter.unusedSimpArgs false
end Go.Proofs.Ytjohfkpgghnpeaa.PRef
end
section
namespace Go.Proofs.Ytjohfkpgghnpeaa.PRef
open Go.RowKit Go.Proofs.YtjohfkpgghnpeaaW.PrintWords Go.Proofs.YtjohfkpgghnpeaaW.PrintLast Go.Proofs.YtjohfkpgghnpeaaW.PrintMore
attribute [local go_sem] max2_int min2_int max_two min_two
open Go.Proofs.Ytjohfkpgghnpeaa.Gv Go.Proofs.Ytjohfkpgghnpeaa.PNum
set_option linter.unusedVariables false
set_option linter.unusedSimpArgs false
mutual
def tarnref09_Lay.j0 : Nat → List (S30) → Int → Bool → Int → ByteArray → Option ((List (S30)) × Bool)
  | 0, _, _, _, _, _ => none
  | k + 1, x0, x1, x23, x105000, x105001 => if x23 = true then (some (x0, false)) else ((tarnref09_Get.f k x0 x1).bind fun bt106 => (if bt106.2.2 = true then (tarnref09_Lay.j1 k x0 x1 (decide (bt106.1 ≥ x105000)) x105000 x105001) else (tarnref09_Lay.j1 k x0 x1 false x105000 x105001)))
def tarnref09_Lay.j1 : Nat → List (S30) → Int → Bool → Int → ByteArray → Option ((List (S30)) × Bool)
  | 0, _, _, _, _, _ => none
  | k + 1, x0, x1, x38, x105000, x105001 => if x38 = true then (some (x0, false)) else (tarnref09_Lay.l0 k x0 x1 (([] : List (S30))) false 0 x105000 x105001)
def tarnref09_Lay.l0 : Nat → List (S30) → Int → List (S30) → Bool → Int → Int → ByteArray → Option ((List (S30)) × Bool)
  | 0, _, _, _, _, _, _, _ => none
  | k + 1, x0, x1, x10, x11, x12, x105000, x105001 => if x12 < (x0.length : Int) then (if x11 = true then (tarnref09_Lay.j3 k x0 x1 x10 x11 x12 false x105000 x105001) else (if 0 ≤ x12 then (tarnref09_Lay.j3 k x0 x1 x10 x11 x12 (decide (((rd_T30 x0 x12).f0) ≥ x1)) x105000 x105001) else (none))) else (if x11 = true then (some (x10, true)) else (if x10.length < 4398046511104 then (some ((x10 ++ [(⟨x1, (⟨x105000, x105001⟩ : S28)⟩ : S30)]), true)) else (none)))
def tarnref09_Lay.j3 : Nat → List (S30) → Int → List (S30) → Bool → Int → Bool → Int → ByteArray → Option ((List (S30)) × Bool)
  | 0, _, _, _, _, _, _, _, _ => none
  | k + 1, x0, x1, x10, x11, x12, x57, x105000, x105001 => if x57 = true then (if x10.length < 4398046511104 then ((some (x10 ++ [(⟨x1, (⟨x105000, x105001⟩ : S28)⟩ : S30)] : List (S30))).bind fun y117 => (if 0 ≤ x12 then (if x12 < (x0.length : Int) then (if ((rd_T30 x0 x12).f0) = x1 then (tarnref09_Lay.l0 k x0 x1 y117 true (wrap64 (x12 + 1)) x105000 x105001) else (if y117.length < 4398046511104 then (tarnref09_Lay.l0 k x0 x1 (y117 ++ [(⟨(rd_T30 x0 x12).f0, (⟨(rd_T30 x0 x12).f1.f0, (rd_T30 x0 x12).f1.f1⟩ : S28)⟩ : S30)]) true (wrap64 (x12 + 1)) x105000 x105001) else (none))) else (none)) else (none))) else (none)) else (if 0 ≤ x12 then (if x12 < (x0.length : Int) then (if ((rd_T30 x0 x12).f0) = x1 then (tarnref09_Lay.l0 k x0 x1 x10 x11 (wrap64 (x12 + 1)) x105000 x105001) else (if x10.length < 4398046511104 then (tarnref09_Lay.l0 k x0 x1 (x10 ++ [(⟨(rd_T30 x0 x12).f0, (⟨(rd_T30 x0 x12).f1.f0, (rd_T30 x0 x12).f1.f1⟩ : S28)⟩ : S30)]) x11 (wrap64 (x12 + 1)) x105000 x105001) else (none))) else (none)) else (none))
end
def tarnref09_Lay.f (k : Nat) (l0 : List (S30)) (a1 : Int) (a2_0 : Int) (a2_1 : ByteArray) : Option ((List (S30)) × Bool) := if a1 < 0 then (tarnref09_Lay.j0 k l0 a1 true a2_0 a2_1) else (if a1 ≥ 64 then (tarnref09_Lay.j0 k l0 a1 true a2_0 a2_1) else ((tarnref08_May.f a2_0 a2_1).bind fun t105 => (tarnref09_Lay.j0 k l0 a1 (!t105) a2_0 a2_1)))
end Go.Proofs.Ytjohfkpgghnpeaa.PRef
end
section
namespace Go.Proofs.Ytjohfkpgghnpeaa.PRef
open Go.RowKit Go.Proofs.YtjohfkpgghnpeaaW.PrintWords Go.Proofs.YtjohfkpgghnpeaaW.PrintLast Go.Proofs.YtjohfkpgghnpeaaW.PrintMore
attribute [local go_sem] max2_int min2_int max_two min_two
open Go.Proofs.Ytjohfkpgghnpeaa.Gv Go.Proofs.Ytjohfkpgghnpeaa.PNum
set_option linter.unusedVariables false
set_option linter.unusedSimpArgs false
def tarnref09_Drop.l0 : Nat → List (S30) → Int → Int → List (S30) → Bool → Int → Option ((List (S30)) × Bool)
  | 0, _, _, _, _, _, _ => none
  | k + 1, x0, x1, x2, x8, x9, x10 => if x10 < (x0.length : Int) then (if 0 ≤ x10 then (if ((rd_T30 x0 x10).f0) = x1 then (if ((rd_T30 x0 x10).f1.f0) ≤ x2 then (tarnref09_Drop.l0 k x0 x1 x2 x8 true (wrap64 (x10 + 1))) else (if x8.length < 4398046511104 then (tarnref09_Drop.l0 k x0 x1 x2 (x8 ++ [(⟨(rd_T30 x0 x10).f0, (⟨(rd_T30 x0 x10).f1.f0, (rd_T30 x0 x10).f1.f1⟩ : S28)⟩ : S30)]) x9 (wrap64 (x10 + 1))) else (none))) else (if x8.length < 4398046511104 then (tarnref09_Drop.l0 k x0 x1 x2 (x8 ++ [(⟨(rd_T30 x0 x10).f0, (⟨(rd_T30 x0 x10).f1.f0, (rd_T30 x0 x10).f1.f1⟩ : S28)⟩ : S30)]) x9 (wrap64 (x10 + 1))) else (none))) else (none)) else (some (x8, x9))
def tarnref09_Drop.f (k : Nat) (l0 : List (S30)) (a1 : Int) (a2 : Int) : Option ((List (S30)) × Bool) := tarnref09_Drop.l0 k l0 a1 a2 (([] : List (S30))) false 0
end Go.Proofs.Ytjohfkpgghnpeaa.PRef
end
section
namespace Go.Proofs.Ytjohfkpgghnpeaa.PRef
open Go.RowKit Go.Proofs.YtjohfkpgghnpeaaW.PrintWords Go.Proofs.YtjohfkpgghnpeaaW.PrintLast Go.Proofs.YtjohfkpgghnpeaaW.PrintMore
attribute [local go_sem] max2_int min2_int max_two min_two
open Go.Proofs.Ytjohfkpgghnpeaa.Gv Go.Proofs.Ytjohfkpgghnpeaa.PNum
set_option linter.unusedVariables false
set_option linter.unusedSimpArgs false
def tarnref09_Of.l0 : Nat → List (S30) → List (S30) → Int → Option ((List (S30)))
  | 0, _, _, _ => none
  | k + 1, x0, x3, x4 => if x4 < (x0.length : Int) then (if 0 ≤ x4 then ((tarnref09_Lay.f k x3 ((rd_T30 x0 x4).f0) ((rd_T30 x0 x4).f1.f0) ((rd_T30 x0 x4).f1.f1)).bind fun bt148 => (tarnref09_Of.l0 k x0 bt148.1 (wrap64 (x4 + 1)))) else (none)) else (some x3)
def tarnref09_Of.f (k : Nat) (l0 : List (S30)) : Option ((List (S30))) := tarnref09_Of.l0 k l0 (([] : List (S30))) 0
def tarnref09_Of.T5 : Bool × List (List Nat × List Nat) := (true, [([], []), ([], []), ([], []), ([1, 2], [1, 2]), ([3], [3]), ([4], [4]), ([], []), ([], []), ([6, 7], [6, 7]), ([8], [8]), ([9], [9]), ([0, 5, 10], [0, 5, 10]), ([11], [11]), ([12], [12]), ([12], [12]), ([13, 11, 0, 1, 2, 3, 4, 5, 6, 7, 8, 9, 10, 11, 12, 13], [0, 13])])
def tarnref09_Of.B5 : List Nat := [0, 0, 0, 6, 14, 30, 0, 0, 192, 448, 960, 2047, 4095, 8191, 8191, 16383]
end Go.Proofs.Ytjohfkpgghnpeaa.PRef
end
section
namespace Go.Proofs.Ytjohfkpgghnpeaa.PRef
open Go.RowKit Go.Proofs.YtjohfkpgghnpeaaW.PrintWords Go.Proofs.YtjohfkpgghnpeaaW.PrintLast Go.Proofs.YtjohfkpgghnpeaaW.PrintMore
attribute [local go_sem] max2_int min2_int max_two min_two
open Go.Proofs.Ytjohfkpgghnpeaa.Gv Go.Proofs.Ytjohfkpgghnpeaa.PNum
set_option linter.unusedVariables false
set_option linter.unusedSimpArgs false
def tarnref09_Merge.f (k : Nat) (l0 : List (S30)) (l1 : List (S30)) : Option ((List (S30))) := (some (([] : List (S30)) : List (S30))).bind fun y152 => (if y152.length + l0.length < 4398046511104 then ((some (y152 ++ l0 : List (S30))).bind fun y155 => (if y155.length + l1.length < 4398046511104 then ((tarnref09_Of.f k (y155 ++ l1)).bind fun t161 => (some t161)) else (none))) else (none))
end Go.Proofs.Ytjohfkpgghnpeaa.PRef
end
section
namespace Go.Proofs.Ytjohfkpgghnpeaa.PRef
open Go.RowKit Go.Proofs.YtjohfkpgghnpeaaW.PrintWords Go.Proofs.YtjohfkpgghnpeaaW.PrintLast Go.Proofs.YtjohfkpgghnpeaaW.PrintMore
attribute [local go_sem] max2_int min2_int max_two min_two
open Go.Proofs.Ytjohfkpgghnpeaa.Gv Go.Proofs.Ytjohfkpgghnpeaa.PNum
set_option linter.unusedVariables false
set_option linter.unusedSimpArgs false
attribute [local go_sem high] eqA30
def tarnref09_Same.l0 : Nat → List (S30) → List (S30) → Int → Option (Bool)
  | 0, _, _, _ => none
  | k + 1, x0, x1, x5 => if x5 < (x0.length : Int) then (if 0 ≤ x5 then (if x5 < (x1.length : Int) then (if (!(((rd_T30 x0 x5).f0) == ((rd_T30 x1 x5).f0)) || ((!(((rd_T30 x0 x5).f1.f0) == ((rd_T30 x1 x5).f1.f0)) || (!((((rd_T30 x0 x5).f1.f1).toList) == (((rd_T30 x1 x5).f1.f1).toList)))))) = true then (some false) else (tarnref09_Same.l0 k x0 x1 (wrap64 (x5 + 1)))) else (none)) else (none)) else (some true)
def tarnref09_Same.f (k : Nat) (l0 : List (S30)) (l1 : List (S30)) : Option (Bool) := if (l0.length : Int) = (l1.length : Int) then (tarnref09_Same.l0 k l0 l1 0) else (some false)
set_option maxHeartbeats 8000000 in
set_option maxRecDepth 100000 in
theorem tarnref09_Same.calls (k : Nat) (A0 : Option Addr) (c0 : Nat) (l0 : List (S30)) (A1 : Option Addr) (c1 : Nat) (l1 : List (S30)) (r : Bool) (w : World) (hr0 : Kd.C k30 w A0 l0.length l0) (hc0 : l0.length ≤ c0) (hr1 : Kd.C k30 w A1 l1.length l1) (hc1 : l1.length ≤ c1) (h : tarnref09_Same.f k l0 l1 = some r) :
    Calls Try.prog 25 #[.slice A0 l0.length c0, .slice A1 l1.length c1] w fun e w' => e = .returned (.bool r) ∧ Drawn0 w w' := by
  have hu30 := Try.underlying30
  have HR0 := Aside0.mk hr0
  have HC0 := Aside0.mk hc0
  clear hr0 hc0
  have HR1 := Aside0.mk hr1
  have HC1 := Aside0.mk hc1
  clear hr1 hc1
  have H : (if (l0.length : Int) = (l1.length : Int) then (tarnref09_Same.l0 k l0 l1 0) else (some false)) = some r := h
  clear h
  by_cases c3 : (l0.length : Int) = (l1.length : Int)
  · rw [if_pos c3] at H
    have c3b0 : ((l0.length : Int) == (l1.length : Int)) = true := beq_iff_eq.mpr c3
    have c3b1 : ((l0.length : Int) != (l1.length : Int)) = false := bne_eq_false_iff_eq.mpr c3
    have c3b2 : (l0.length == l1.length) = true := by first | simpa using c3 | (simp at c3 ⊢; omega)
    clear c3
    have H' := Aside0.mk H
    clear H
    go_enter Try.func25, Try.ntmps25
    go_wp2
    repeat (go_quiet (fail); try go_wp2)
    go_loopg [5] k (fun kq v5 w' => ∃ (x5_1 : Int), v5 = .int .i64 x5_1 ∧ Aside0 (tarnref09_Same.l0 kq l0 l1 x5_1 = some r) ∧ Aside0 (kq ≤ k) ∧ Drawn0 w w')
    case atStart => exact ⟨(0), (by first | rfl | (simp; done) | (simp [*]; done)), H', ⟨Nat.le_refl _⟩, by repeat (first | exact Drawn0.refl _ | apply Drawn0.step)⟩
    case round =>
      clear H'
      try clear c1
      try clear c2
      try clear p2
      try clear c3
      try clear c3b0
      try clear c3b1
      try clear c3b2
      obtain ⟨x5_1, rfl, HA, HK1, ⟨m1, rfl⟩⟩ := hrel
      cases gk with
      | zero => exact absurd HA.out (by simp [tarnref09_Same.l0])
      | succ k1 =>
        have H := HA.out
        clear HA
        simp only [tarnref09_Same.l0] at H
        by_cases c4 : x5_1 < (l0.length : Int)
        · rw [if_pos c4] at H
          have c4b0 : decide (x5_1 < (l0.length : Int)) = true := decide_eq_true c4
          clear c4
          by_cases c5 : 0 ≤ x5_1
          · rw [if_pos c5] at H
            have c5b0 : decide (0 ≤ x5_1) = true := decide_eq_true c5
            clear c5
            by_cases c6 : x5_1 < (l1.length : Int)
            · rw [if_pos c6] at H
              have c6b0 : decide (x5_1 < (l1.length : Int)) = true := decide_eq_true c6
              clear c6
              by_cases c7 : (!(((rd_T30 l0 x5_1).f0) == ((rd_T30 l1 x5_1).f0)) || ((!(((rd_T30 l0 x5_1).f1.f0) == ((rd_T30 l1 x5_1).f1.f0)) || (!((((rd_T30 l0 x5_1).f1.f1).toList) == (((rd_T30 l1 x5_1).f1.f1).toList)))))) = true
              · rw [if_pos c7] at H
                have c7b0 : (!(((rd_T30 l0 x5_1).f0) == ((rd_T30 l1 x5_1).f0)) || ((!(((rd_T30 l0 x5_1).f1.f0) == ((rd_T30 l1 x5_1).f1.f0)) || (!((((rd_T30 l0 x5_1).f1.f1).toList) == (((rd_T30 l1 x5_1).f1.f1).toList)))))) = true := c7
                clear c7
                obtain rfl := Option.some.inj H
                have p164 : 0 ≤ (x5_1 : Int) := of_decide_eq_true (by first | (with_reducible assumption) | assumption)
                have q164 : x5_1 < (l0.length : Int) := of_decide_eq_true (by first | (with_reducible assumption) | assumption)
                obtain ⟨ad164, e164, hx164_0, hx164_1, hx164_2⟩ := at_T30 HR0.out x5_1 p164 q164
                cases e164
                replace p164 := eq_true p164
                replace q164 := eq_true q164
                have p165 : 0 ≤ (x5_1 : Int) := of_decide_eq_true (by first | (with_reducible assumption) | assumption)
                have q165 : x5_1 < (l1.length : Int) := of_decide_eq_true (by first | (with_reducible assumption) | assumption)
                obtain ⟨ad165, e165, hx165_0, hx165_1, hx165_2⟩ := at_T30 HR1.out x5_1 p165 q165
                cases e165
                replace p165 := eq_true p165
                replace q165 := eq_true q165
                go_wp2
                repeat (go_quiet (fail); try go_wp2)
                go_ret
                exact ⟨by first | rfl | (simp; done) | (simp [*]; done), by repeat (first | exact Drawn0.refl _ | apply Drawn0.step)⟩
              · rw [if_neg c7] at H
                have c7b0 : (!(((rd_T30 l0 x5_1).f0) == ((rd_T30 l1 x5_1).f0)) || ((!(((rd_T30 l0 x5_1).f1.f0) == ((rd_T30 l1 x5_1).f1.f0)) || (!((((rd_T30 l0 x5_1).f1.f1).toList) == (((rd_T30 l1 x5_1).f1.f1).toList)))))) = false := by simpa using c7
                clear c7
                have H' := Aside0.mk H
                clear H
                have p164 : 0 ≤ (x5_1 : Int) := of_decide_eq_true (by first | (with_reducible assumption) | assumption)
                have q164 : x5_1 < (l0.length : Int) := of_decide_eq_true (by first | (with_reducible assumption) | assumption)
                obtain ⟨ad164, e164, hx164_0, hx164_1, hx164_2⟩ := at_T30 HR0.out x5_1 p164 q164
                cases e164
                replace p164 := eq_true p164
                replace q164 := eq_true q164
                have p165 : 0 ≤ (x5_1 : Int) := of_decide_eq_true (by first | (with_reducible assumption) | assumption)
                have q165 : x5_1 < (l1.length : Int) := of_decide_eq_true (by first | (with_reducible assumption) | assumption)
                obtain ⟨ad165, e165, hx165_0, hx165_1, hx165_2⟩ := at_T30 HR1.out x5_1 p165 q165
                cases e165
                replace p165 := eq_true p165
                replace q165 := eq_true q165
                go_wp2
                repeat (go_quiet (fail); try go_wp2)
                go_roundg k1
                case measure => have := HK1.out; omega
                case rel => exact ⟨(wrap64 (x5_1 + 1)), (by first | rfl | (simp; done) | (simp [*]; done)), H', ⟨by have := HK1.out; omega⟩, by repeat (first | exact Drawn0.refl _ | apply Drawn0.step)⟩
            · rw [if_neg c6] at H
              exact absurd H (by simp)
          · rw [if_neg c5] at H
            exact absurd H (by simp)
        · rw [if_neg c4] at H
          have c4b0 : decide (x5_1 < (l0.length : Int)) = false := decide_eq_false c4
          clear c4
          obtain rfl := Option.some.inj H
          go_wp2
          repeat (go_quiet (fail); try go_wp2)
          go_ret
          exact ⟨by first | rfl | (simp; done) | (simp [*]; done), by repeat (first | exact Drawn0.refl _ | apply Drawn0.step)⟩
  · rw [if_neg c3] at H
    have c3b0 : ((l0.length : Int) == (l1.length : Int)) = false := beq_eq_false_iff_ne.mpr c3
    have c3b1 : ((l0.length : Int) != (l1.length : Int)) = true := bne_iff_ne.mpr c3
    have c3b2 : (l0.length == l1.length) = false := by first | simpa using c3 | (simp at c3 ⊢; omega)
    obtain rfl := Option.some.inj H
    go_enter Try.func25, Try.ntmps25
    go_wp2
    repeat (go_quiet (fail); try go_wp2)
    go_ret
    exact ⟨by first | rfl | (simp; done) | (simp [*]; done), by repeat (first | exact Drawn0.refl _ | apply Drawn0.step)⟩
end Go.Proofs.Ytjohfkpgghnpeaa.PRef
end
section
namespace Go.Proofs.Ytjohfkpgghnpeaa.PRef
open Go.RowKit Go.Proofs.YtjohfkpgghnpeaaW.PrintWords Go.Proofs.YtjohfkpgghnpeaaW.PrintLast Go.Proofs.YtjohfkpgghnpeaaW.PrintMore
attribute [local go_sem] max2_int min2_int max_two min_two
open Go.Proofs.Ytjohfkpgghnpeaa.Gv Go.Proofs.Ytjohfkpgghnpeaa.PNum
set_option linter.unusedVariables false
set_option linter.unusedSimpArgs false
end Go.Proofs.Ytjohfkpgghnpeaa.PRef
end
section
namespace Go.Proofs.Ytjohfkpgghnpeaa.PRef
open Go.RowKit Go.Proofs.YtjohfkpgghnpeaaW.PrintWords Go.Proofs.YtjohfkpgghnpeaaW.PrintLast Go.Proofs.YtjohfkpgghnpeaaW.PrintMore
attribute [local go_sem] max2_int min2_int max_two min_two
open Go.Proofs.Ytjohfkpgghnpeaa.Gv Go.Proofs.Ytjohfkpgghnpeaa.PNum
set_option linter.unusedVariables false
set_option linter.unusedSimpArgs false
end Go.Proofs.Ytjohfkpgghnpeaa.PRef
end
section
namespace Go.Proofs.Ytjohfkpgghnpeaa.PRef
open Go.RowKit Go.Proofs.YtjohfkpgghnpeaaW.PrintWords Go.Proofs.YtjohfkpgghnpeaaW.PrintLast Go.Proofs.YtjohfkpgghnpeaaW.PrintMore
attribute [local go_sem] max2_int min2_int max_two min_two
open Go.Proofs.Ytjohfkpgghnpeaa.Gv Go.Proofs.Ytjohfkpgghnpeaa.PNum
set_option linter.unusedVariables false
set_option linter.unusedSimpArgs false
def tarnref09_PutAll.l0 : Nat → List (S30) → ByteArray → Int → Option (ByteArray)
  | 0, _, _, _ => none
  | k + 1, x0, x3, x4 => if x4 < (x0.length : Int) then (if 0 ≤ x4 then (if ((rd_T30 x0 x4).f0) > 0 then ((tarnref01_Put.f (IntKind.u64.wrap ((rd_T30 x0 x4).f0))).bind fun t169 => ((tarnref08_Put.f ((rd_T30 x0 x4).f1.f0) ((rd_T30 x0 x4).f1.f1)).bind fun t171 => (if t169.size + t171.size ≤ 9223372036854775807 then (if x3.size + (t169 ++ t171).size ≤ 9223372036854775807 then (tarnref09_PutAll.l0 k x0 (x3 ++ (t169 ++ t171)) (wrap64 (x4 + 1))) else (none)) else (none)))) else ((tarnref01_Put.f 0).bind fun t172 => ((tarnref08_Put.f ((rd_T30 x0 x4).f1.f0) ((rd_T30 x0 x4).f1.f1)).bind fun t174 => (if t172.size + t174.size ≤ 9223372036854775807 then (if x3.size + (t172 ++ t174).size ≤ 9223372036854775807 then (tarnref09_PutAll.l0 k x0 (x3 ++ (t172 ++ t174)) (wrap64 (x4 + 1))) else (none)) else (none))))) else (none)) else (some x3)
def tarnref09_PutAll.f (k : Nat) (l0 : List (S30)) : Option (ByteArray) := (tarnref01_Put.f (IntKind.u64.wrap ((l0.length : Int)))).bind fun t166 => (tarnref09_PutAll.l0 k l0 t166 0)
def tarnref09_PutAll.T8 : Bool × List (List Nat × List Nat) := (true, [([], []), ([], []), ([1], [1]), ([], []), ([], []), ([3, 4], [3, 4]), ([5], [5]), ([6], [6]), ([7, 2], [7]), ([2, 8], [2, 8]), ([0, 9], [0, 9]), ([10, 8, 0, 1, 2, 3, 4, 5, 6, 7, 8, 9, 10], [0, 10])])
def tarnref09_PutAll.B8 : List Nat := [0, 0, 2, 0, 0, 24, 56, 120, 254, 510, 1023, 2047]
theorem tarnref09_PutAll.tab8 : rtab .any (opsOf Try.f45 8) = tarnref09_PutAll.T8 := by kernel_rfl
theorem tarnref09_PutAll.bits8 : waitsOk tarnref09_PutAll.T8.2 tarnref09_PutAll.B8 = true := by kernel_rfl
set_option maxHeartbeats 8000000 in
set_option maxRecDepth 100000 in
theorem tarnref09_PutAll.calls (k : Nat) (A0 : Option Addr) (c0 : Nat) (l0 : List (S30)) (r : ByteArray) (w : World) (hr0 : Kd.C k30 w A0 l0.length l0) (hc0 : l0.length ≤ c0) (h : tarnref09_PutAll.f k l0 = some r) :
    Calls Try.prog 45 #[.slice A0 l0.length c0] w fun e w' => e = .returned (.string r) ∧ Below w.heap.size w w' := by
  have hu28 := Try.underlying28
  have HR0 := Aside0.mk hr0
  have HC0 := Aside0.mk hc0
  clear hr0 hc0
  have HB := Aside0.mk (Below.refl w.heap.size w)
  have H : ((tarnref01_Put.f (IntKind.u64.wrap ((l0.length : Int)))).bind fun t166 => (tarnref09_PutAll.l0 k l0 t166 0)) = some r := h
  clear h
  replace H := Option.bind_eq_some_iff.mp H
  obtain ⟨t166, A20, H⟩ := H
  replace H : (tarnref09_PutAll.l0 k l0 t166 0) = some r := H
  have A2 := Aside0.mk A20
  clear A20
  have H' := Aside0.mk H
  clear H
  go_enter Try.func45, Try.ntmps45
  go_wp2_with (first | ((with_reducible refine gate_callee (f := 68) rfl ?_); refine goesL_ (some 9) rfl rfl Try.func68 (by kernel_rfl) rfl #[.int .u64 (IntKind.u64.wrap ((l0.length : Int)))] rfl (by (try simp only [List.map_toArray, List.map_cons, List.map_nil]); first | done | rfl | (simp only [List.length_drop, List.length_take]; rfl)) ?_; (with_reducible refine (tarnref01_Put.calls (IntKind.u64.wrap ((l0.length : Int))) t166 _ A2.out).mono ?_); rintro e w3 ⟨rfl, hb⟩; refine ⟨_, rfl, ?_⟩; have n0_ := Aside0.mk (below_step (by repeat (first | (with_reducible first | exact HB.out | apply below_alloc | apply pw_below_drewN | apply below_drew1) | exact HB.out)) hb); clear HB; have HB := n0_; clear n0_; (try clear hb); (try clear hb2); (try clear hk); (try clear hi)))
  go_loopg [3, 4] k (fun kq v3 v4 w' => ∃ (x3_1 : ByteArray) (x4_1 : Int), v3 = .string x3_1 ∧ v4 = .int .i64 x4_1 ∧ Aside0 (tarnref09_PutAll.l0 kq l0 x3_1 x4_1 = some r) ∧ Aside0 (kq ≤ k) ∧ Aside0 (Below w.heap.size w w'))
  case atStart => exact ⟨(t166), (0), (by first | rfl | (simp; done) | (simp [*]; done)), (by first | rfl | (simp; done) | (simp [*]; done)), H', ⟨Nat.le_refl _⟩, ⟨by repeat (first | (with_reducible first | exact HB.out | apply below_alloc | apply pw_below_drewN | apply below_drew1) | exact HB.out)⟩⟩
  case round =>
    clear H'
    try clear p2
    obtain ⟨x3_1, x4_1, rfl, rfl, HA, HK1, HB⟩ := hrel
    cases gk with
    | zero => exact absurd HA.out (by simp [tarnref09_PutAll.l0])
    | succ k1 =>
      have H := HA.out
      clear HA
      simp only [tarnref09_PutAll.l0] at H
      by_cases c4 : x4_1 < (l0.length : Int)
      · rw [if_pos c4] at H
        have c4b0 : decide (x4_1 < (l0.length : Int)) = true := decide_eq_true c4
        clear c4
        by_cases c5 : 0 ≤ x4_1
        · rw [if_pos c5] at H
          have c5b0 : decide (0 ≤ x4_1) = true := decide_eq_true c5
          clear c5
          by_cases c6 : ((rd_T30 l0 x4_1).f0) > 0
          · rw [if_pos c6] at H
            have c6b0 : decide (0 < ((rd_T30 l0 x4_1).f0)) = true := decide_eq_true c6
            clear c6
            replace H := Option.bind_eq_some_iff.mp H
            obtain ⟨t169, A70, H⟩ := H
            replace H : ((tarnref08_Put.f ((rd_T30 l0 x4_1).f1.f0) ((rd_T30 l0 x4_1).f1.f1)).bind fun t171 => (if t169.size + t171.size ≤ 9223372036854775807 then (if x3_1.size + (t169 ++ t171).size ≤ 9223372036854775807 then (tarnref09_PutAll.l0 k1 l0 (x3_1 ++ (t169 ++ t171)) (wrap64 (x4_1 + 1))) else (none)) else (none))) = some r := H
            have A7 := Aside0.mk A70
            clear A70
            replace H := Option.bind_eq_some_iff.mp H
            obtain ⟨t171, A80, H⟩ := H
            replace H : (if t169.size + t171.size ≤ 9223372036854775807 then (if x3_1.size + (t169 ++ t171).size ≤ 9223372036854775807 then (tarnref09_PutAll.l0 k1 l0 (x3_1 ++ (t169 ++ t171)) (wrap64 (x4_1 + 1))) else (none)) else (none)) = some r := H
            have A8 := Aside0.mk A80
            clear A80
            by_cases c9 : t169.size + t171.size ≤ 9223372036854775807
            · rw [if_pos c9] at H
              have c9b0 := eq_true c9
              have c9b1 : decide (t169.size + t171.size ≤ 9223372036854775807) = true := decide_eq_true c9
              try have c9b2 : (9223372036854775807 < t169.size + t171.size) = False := eq_false (Nat.not_lt.2 c9)
              by_cases c10 : x3_1.size + (t169 ++ t171).size ≤ 9223372036854775807
              · rw [if_pos c10] at H
                have c10b0 := eq_true c10
                have c10b1 : decide (x3_1.size + (t169 ++ t171).size ≤ 9223372036854775807) = true := decide_eq_true c10
                try have c10b3 : (9223372036854775807 < x3_1.size + (t169.size + t171.size)) = False := eq_false (by have h_ := c10; simp only [ByteArray.size_append] at h_; omega)
                try have c10b2 : (9223372036854775807 < x3_1.size + (t169 ++ t171).size) = False := eq_false (Nat.not_lt.2 c10)
                have H' := Aside0.mk H
                clear H
                have p167 : 0 ≤ (x4_1 : Int) := of_decide_eq_true (by first | (with_reducible assumption) | assumption)
                have q167 : x4_1 < (l0.length : Int) := of_decide_eq_true (by first | (with_reducible assumption) | assumption)
                obtain ⟨ad167, e167, hx167_0, hx167_1, hx167_2⟩ := at_T30 HR0.out x4_1 p167 q167
                cases e167
                replace hx167_0 := (HB.out.cell (World.block_lt_of_cell? w _ hx167_0)).trans hx167_0
                replace hx167_1 := (HB.out.cell (World.block_lt_of_cell? w _ hx167_1)).trans hx167_1
                replace hx167_2 := (HB.out.cell (World.block_lt_of_cell? w _ hx167_2)).trans hx167_2
                replace p167 := eq_true p167
                replace q167 := eq_true q167
                have p168 : 0 ≤ (x4_1 : Int) := of_decide_eq_true (by first | (with_reducible assumption) | assumption)
                have q168 : x4_1 < (l0.length : Int) := of_decide_eq_true (by first | (with_reducible assumption) | assumption)
                obtain ⟨ad168, e168, hx168_0, hx168_1, hx168_2⟩ := at_T30 HR0.out x4_1 p168 q168
                obtain rfl : ad167 = ad168 := (by injection e168)
                replace hx168_0 := (HB.out.cell (World.block_lt_of_cell? w _ hx168_0)).trans hx168_0
                replace hx168_1 := (HB.out.cell (World.block_lt_of_cell? w _ hx168_1)).trans hx168_1
                replace hx168_2 := (HB.out.cell (World.block_lt_of_cell? w _ hx168_2)).trans hx168_2
                replace p168 := eq_true p168
                replace q168 := eq_true q168
                try go_wp2
                have n0_ := Aside0.mk (below_drew1 HB.out)
                clear HB
                have HB := n0_
                clear n0_
                have p170 : 0 ≤ (x4_1 : Int) := of_decide_eq_true (by first | (with_reducible assumption) | assumption)
                have q170 : x4_1 < (l0.length : Int) := of_decide_eq_true (by first | (with_reducible assumption) | assumption)
                obtain ⟨ad170, e170, hx170_0, hx170_1, hx170_2⟩ := at_T30 HR0.out x4_1 p170 q170
                have hw170_2 := hx170_2
                have hw170_1 := hx170_1
                have hw170_0 := hx170_0
                obtain rfl : ad167 = ad170 := (by injection e170)
                replace hx170_0 := (HB.out.cell (World.block_lt_of_cell? w _ hx170_0)).trans hx170_0
                replace hx170_1 := (HB.out.cell (World.block_lt_of_cell? w _ hx170_1)).trans hx170_1
                replace hx170_2 := (HB.out.cell (World.block_lt_of_cell? w _ hx170_2)).trans hx170_2
                replace p170 := eq_true p170
                replace q170 := eq_true q170
                refine start_ (n := 12) (S := fun w' => w'.cell? (ad167.add ((x4_1).toNat * 3)) = some (.int .i64 ((rd_T30 l0 x4_1).f0)) ∧ w'.cell? ⟨(ad167.add ((x4_1).toNat * 3)).block, (ad167.add ((x4_1).toNat * 3)).off + 1, none⟩ = some (.int .u64 ((rd_T30 l0 x4_1).f1.f0)) ∧ w'.cell? ⟨(ad167.add ((x4_1).toNat * 3)).block, (ad167.add ((x4_1).toNat * 3)).off + 2, none⟩ = some (.string ((rd_T30 l0 x4_1).f1.f1))) (ds := []) #[false, false, false, false, false, false, false, false, false, false, false, false] (by kernel_rfl) rfl rfl ⟨((HB.out.cell (World.block_lt_of_cell? w _ hw170_0)).trans hw170_0), ((HB.out.cell (World.block_lt_of_cell? w _ hw170_1)).trans hw170_1), ((HB.out.cell (World.block_lt_of_cell? w _ hw170_2)).trans hw170_2)⟩ (fun hHeld => ?_); refine with_tabW tarnref09_PutAll.tab8 tarnref09_PutAll.bits8 (fun HT_ HW_ => ?_)
                generalize wr.drew = w11 at HB hx170_0 hx170_1 hx170_2 hHeld ⊢
                refine pure_ (i := 0) (N := some 28) (v := ?_) (a' := ?_) #[true, false, false, false, false, false, false, false, false, false, false, false] rfl rfl (any_of HT_.out (by kernel_rfl)) (fun _ _ _ h => h) (Or.inl ⟨by rfl, ?_⟩) ?_ ?_
                rotate_left
                · intro w'
                  go_simp
                  with_reducible rfl
                rotate_left
                · simp only [Act.put, List.setIfInBounds_toArray, List.set_cons_zero, List.set_cons_succ, i64_w, i32_w]
                  rfl
                refine pure_ (i := 1) (N := some 29) (v := ?_) (a' := ?_) #[true, true, false, false, false, false, false, false, false, false, false, false] rfl rfl (any_of HT_.out (by kernel_rfl)) (fun _ _ _ h => h) (Or.inl ⟨by rfl, ?_⟩) ?_ ?_
                rotate_left
                · intro w'
                  go_simp
                  with_reducible rfl
                rotate_left
                · simp only [Act.put, List.setIfInBounds_toArray, List.set_cons_zero, List.set_cons_succ, i64_w, i32_w]
                  rfl
                refine pure_ (i := 3) (N := some 31) (v := ?_) (a' := ?_) #[true, true, false, true, false, false, false, false, false, false, false, false] rfl rfl (any_of HT_.out (by kernel_rfl)) (fun _ _ _ h => h) (Or.inl ⟨by rfl, ?_⟩) ?_ ?_
                rotate_left
                · intro w'
                  go_simp
                  with_reducible rfl
                rotate_left
                · simp only [Act.put, List.setIfInBounds_toArray, List.set_cons_zero, List.set_cons_succ, i64_w, i32_w]
                  rfl
                refine pure_ (i := 4) (N := some 32) (v := ?_) (a' := ?_) #[true, true, false, true, true, false, false, false, false, false, false, false] rfl rfl (any_of HT_.out (by kernel_rfl)) (fun _ _ _ h => h) (Or.inl ⟨by rfl, ?_⟩) ?_ ?_
                rotate_left
                · intro w'
                  go_simp
                  with_reducible rfl
                rotate_left
                · simp only [Act.put, List.setIfInBounds_toArray, List.set_cons_zero, List.set_cons_succ, i64_w, i32_w]
                  rfl
                refine pure_ (i := 5) (N := some 33) (v := ?_) (a' := ?_) #[true, true, false, true, true, true, false, false, false, false, false, false] rfl rfl (any_of HT_.out (by kernel_rfl)) (fun _ _ _ h => h) (Or.inl ⟨by rfl, ?_⟩) ?_ ?_
                rotate_left
                · intro w'
                  go_simp
                  with_reducible rfl
                rotate_left
                · simp only [Act.put, List.setIfInBounds_toArray, List.set_cons_zero, List.set_cons_succ, i64_w, i32_w]
                  rfl
                refine pure_ (i := 6) (N := some 34) (v := ?_) (a' := ?_) #[true, true, false, true, true, true, true, false, false, false, false, false] rfl rfl (any_of HT_.out (by kernel_rfl)) (fun _ _ _ h => h) (Or.inl ⟨by rfl, ?_⟩) ?_ ?_
                rotate_left
                · intro w'
                  go_simp
                  with_reducible rfl
                rotate_left
                · simp only [Act.put, List.setIfInBounds_toArray, List.set_cons_zero, List.set_cons_succ, i64_w, i32_w]
                  rfl
                refine take_ (i := 7) (N := some 35) (v := ?_) (a' := ?_) #[true, true, false, true, true, true, true, true, false, false, false, false] rfl rfl (take_ofW HT_.out HW_.out (by kernel_rfl)) (fun _ _ _ h => h) (Or.inl ⟨by rfl, ?_⟩) hHeld ?_ ?_
                rotate_left
                · rintro w' ⟨s0, s1, s2⟩
                  go_simp
                  with_reducible rfl
                rotate_left
                · simp only [Act.put, List.setIfInBounds_toArray, List.set_cons_zero, List.set_cons_succ, i64_w, i32_w]
                  rfl
                refine one_ (i := 2) (N := some 30) #[true, true, true, true, true, true, true, true, false, false, false, false] rfl rfl (one_of HT_.out (by kernel_rfl)) (by decide) (fun K hK => ?_)
                refine goes_ Try.func68 (by kernel_rfl) rfl #[.int .u64 (IntKind.u64.wrap ((rd_T30 l0 x4_1).f0))] (by rfl) rfl rfl (by (try simp only [List.map_toArray, List.map_cons, List.map_nil]); first | done | rfl | (simp only [List.length_drop, List.length_take]; rfl)) ?_
                with_reducible refine (tarnref01_Put.calls (IntKind.u64.wrap ((rd_T30 l0 x4_1).f0)) t169 _ A7.out).mono ?_
                rintro e w12 ⟨rfl, hb⟩
                refine ⟨_, rfl, ?_⟩
                have n0_ := Aside0.mk (below_step (by repeat (first | (with_reducible first | exact HB.out | apply below_alloc | apply pw_below_drewN | apply below_drew1) | exact HB.out)) hb)
                clear HB
                have HB := n0_
                clear n0_
                (try clear hb)
                (try clear hb2)
                (try clear hk)
                (try clear hi)
                refine hK.out _ _ ⟨((HB.out.cell (World.block_lt_of_cell? w _ hw170_0)).trans hw170_0), ((HB.out.cell (World.block_lt_of_cell? w _ hw170_1)).trans hw170_1), ((HB.out.cell (World.block_lt_of_cell? w _ hw170_2)).trans hw170_2)⟩ (fun hHeld => ?_)
                clear hK K
                refine norm_ (a' := ?_) ?_ ?_
                rotate_left
                · show Act.put _ (some 30) _ = _
                  simp only [Act.put, List.setIfInBounds_toArray, List.set_cons_zero, List.set_cons_succ, i64_w, i32_w]
                  rfl
                refine one_ (i := 8) (N := some 36) #[true, true, true, true, true, true, true, true, true, false, false, false] rfl rfl (one_of HT_.out (by kernel_rfl)) (by decide) (fun K hK => ?_)
                refine goes_ Try.func69 (by kernel_rfl) rfl #[.agg #[.int .u64 ((rd_T30 l0 x4_1).f1.f0), .string ((rd_T30 l0 x4_1).f1.f1)]] (by rfl) rfl rfl (by (try simp only [List.map_toArray, List.map_cons, List.map_nil]); first | done | rfl | (simp only [List.length_drop, List.length_take]; rfl)) ?_
                with_reducible refine (tarnref08_Put.calls ((rd_T30 l0 x4_1).f1.f0) ((rd_T30 l0 x4_1).f1.f1) t171 _ A8.out).mono ?_
                rintro e w13 ⟨rfl, hb⟩
                refine ⟨_, rfl, ?_⟩
                have n0_ := Aside0.mk (below_step (by repeat (first | (with_reducible first | exact HB.out | apply below_alloc | apply pw_below_drewN | apply below_drew1) | exact HB.out)) hb)
                clear HB
                have HB := n0_
                clear n0_
                (try clear hb)
                (try clear hb2)
                (try clear hk)
                (try clear hi)
                refine hK.out _ _ ⟨((HB.out.cell (World.block_lt_of_cell? w _ hw170_0)).trans hw170_0), ((HB.out.cell (World.block_lt_of_cell? w _ hw170_1)).trans hw170_1), ((HB.out.cell (World.block_lt_of_cell? w _ hw170_2)).trans hw170_2)⟩ (fun hHeld => ?_)
                clear hK K
                refine norm_ (a' := ?_) ?_ ?_
                rotate_left
                · show Act.put _ (some 36) _ = _
                  simp only [Act.put, List.setIfInBounds_toArray, List.set_cons_zero, List.set_cons_succ, i64_w, i32_w]
                  rfl
                refine pure_ (i := 9) (N := some 37) (v := ?_) (a' := ?_) #[true, true, true, true, true, true, true, true, true, true, false, false] rfl rfl (any_of HT_.out (by kernel_rfl)) (fun _ _ _ h => h) (Or.inl ⟨by rfl, ?_⟩) ?_ ?_
                rotate_left
                · intro w'
                  go_simp
                  with_reducible rfl
                rotate_left
                · simp only [Act.put, List.setIfInBounds_toArray, List.set_cons_zero, List.set_cons_succ, i64_w, i32_w]
                  rfl
                refine pure_ (i := 10) (N := some 38) (v := ?_) (a' := ?_) #[true, true, true, true, true, true, true, true, true, true, true, false] rfl rfl (any_of HT_.out (by kernel_rfl)) (fun _ _ _ h => h) (Or.inl ⟨by rfl, ?_⟩) ?_ ?_
                rotate_left
                · intro w'
                  go_simp
                  with_reducible rfl
                rotate_left
                · simp only [Act.put, List.setIfInBounds_toArray, List.set_cons_zero, List.set_cons_succ, i64_w, i32_w]
                  rfl
                refine pure_ (i := 11) (N := some 3) (v := ?_) (a' := ?_) #[true, true, true, true, true, true, true, true, true, true, true, true] rfl rfl (any_of HT_.out (by kernel_rfl)) (fun _ _ _ h => h) (Or.inl ⟨by rfl, ?_⟩) ?_ ?_
                rotate_left
                · intro w'
                  go_simp
                  with_reducible rfl
                rotate_left
                · simp only [Act.put, List.setIfInBounds_toArray, List.set_cons_zero, List.set_cons_succ, i64_w, i32_w]
                  rfl
                refine done_ (done_of HT_.out (by kernel_rfl)) ?_
                try go_wp2
                go_roundg k1
                case measure => have := HK1.out; omega
                case rel => exact ⟨(x3_1 ++ (t169 ++ t171)), (wrap64 (x4_1 + 1)), (by first | rfl | (simp; done) | (simp [*]; done)), (by first | rfl | (simp; done) | (simp [*]; done)), H', ⟨by have := HK1.out; omega⟩, ⟨by repeat (first | (with_reducible first | exact HB.out | apply below_alloc | apply pw_below_drewN | apply below_drew1) | exact HB.out)⟩⟩
              · rw [if_neg c10] at H
                exact absurd H (by simp)
            · rw [if_neg c9] at H
              exact absurd H (by simp)
          · rw [if_neg c6] at H
            have c6b0 : decide (0 < ((rd_T30 l0 x4_1).f0)) = false := decide_eq_false c6
            clear c6
            replace H := Option.bind_eq_some_iff.mp H
            obtain ⟨t172, A140, H⟩ := H
            replace H : ((tarnref08_Put.f ((rd_T30 l0 x4_1).f1.f0) ((rd_T30 l0 x4_1).f1.f1)).bind fun t174 => (if t172.size + t174.size ≤ 9223372036854775807 then (if x3_1.size + (t172 ++ t174).size ≤ 9223372036854775807 then (tarnref09_PutAll.l0 k1 l0 (x3_1 ++ (t172 ++ t174)) (wrap64 (x4_1 + 1))) else (none)) else (none))) = some r := H
            have A14 := Aside0.mk A140
            clear A140
            replace H := Option.bind_eq_some_iff.mp H
            obtain ⟨t174, A150, H⟩ := H
            replace H : (if t172.size + t174.size ≤ 9223372036854775807 then (if x3_1.size + (t172 ++ t174).size ≤ 9223372036854775807 then (tarnref09_PutAll.l0 k1 l0 (x3_1 ++ (t172 ++ t174)) (wrap64 (x4_1 + 1))) else (none)) else (none)) = some r := H
            have A15 := Aside0.mk A150
            clear A150
            by_cases c16 : t172.size + t174.size ≤ 9223372036854775807
            · rw [if_pos c16] at H
              have c16b0 := eq_true c16
              have c16b1 : decide (t172.size + t174.size ≤ 9223372036854775807) = true := decide_eq_true c16
              try have c16b2 : (9223372036854775807 < t172.size + t174.size) = False := eq_false (Nat.not_lt.2 c16)
              by_cases c17 : x3_1.size + (t172 ++ t174).size ≤ 9223372036854775807
              · rw [if_pos c17] at H
                have c17b0 := eq_true c17
                have c17b1 : decide (x3_1.size + (t172 ++ t174).size ≤ 9223372036854775807) = true := decide_eq_true c17
                try have c17b3 : (9223372036854775807 < x3_1.size + (t172.size + t174.size)) = False := eq_false (by have h_ := c17; simp only [ByteArray.size_append] at h_; omega)
                try have c17b2 : (9223372036854775807 < x3_1.size + (t172 ++ t174).size) = False := eq_false (Nat.not_lt.2 c17)
                have H' := Aside0.mk H
                clear H
                have p167 : 0 ≤ (x4_1 : Int) := of_decide_eq_true (by first | (with_reducible assumption) | assumption)
                have q167 : x4_1 < (l0.length : Int) := of_decide_eq_true (by first | (with_reducible assumption) | assumption)
                obtain ⟨ad167, e167, hx167_0, hx167_1, hx167_2⟩ := at_T30 HR0.out x4_1 p167 q167
                cases e167
                replace hx167_0 := (HB.out.cell (World.block_lt_of_cell? w _ hx167_0)).trans hx167_0
                replace hx167_1 := (HB.out.cell (World.block_lt_of_cell? w _ hx167_1)).trans hx167_1
                replace hx167_2 := (HB.out.cell (World.block_lt_of_cell? w _ hx167_2)).trans hx167_2
                replace p167 := eq_true p167
                replace q167 := eq_true q167
                try go_wp2
                have n0_ := Aside0.mk (below_drew1 HB.out)
                clear HB
                have HB := n0_
                clear n0_
                have p173 : 0 ≤ (x4_1 : Int) := of_decide_eq_true (by first | (with_reducible assumption) | assumption)
                have q173 : x4_1 < (l0.length : Int) := of_decide_eq_true (by first | (with_reducible assumption) | assumption)
                obtain ⟨ad173, e173, hx173_0, hx173_1, hx173_2⟩ := at_T30 HR0.out x4_1 p173 q173
                have hw173_2 := hx173_2
                have hw173_1 := hx173_1
                have hw173_0 := hx173_0
                obtain rfl : ad167 = ad173 := (by injection e173)
                replace hx173_0 := (HB.out.cell (World.block_lt_of_cell? w _ hx173_0)).trans hx173_0
                replace hx173_1 := (HB.out.cell (World.block_lt_of_cell? w _ hx173_1)).trans hx173_1
                replace hx173_2 := (HB.out.cell (World.block_lt_of_cell? w _ hx173_2)).trans hx173_2
                replace p173 := eq_true p173
                replace q173 := eq_true q173
                refine start_ (n := 12) (S := fun w' => w'.cell? (ad167.add ((x4_1).toNat * 3)) = some (.int .i64 ((rd_T30 l0 x4_1).f0)) ∧ w'.cell? ⟨(ad167.add ((x4_1).toNat * 3)).block, (ad167.add ((x4_1).toNat * 3)).off + 1, none⟩ = some (.int .u64 ((rd_T30 l0 x4_1).f1.f0)) ∧ w'.cell? ⟨(ad167.add ((x4_1).toNat * 3)).block, (ad167.add ((x4_1).toNat * 3)).off + 2, none⟩ = some (.string ((rd_T30 l0 x4_1).f1.f1))) (ds := []) #[false, false, false, false, false, false, false, false, false, false, false, false] (by kernel_rfl) rfl rfl ⟨((HB.out.cell (World.block_lt_of_cell? w _ hw173_0)).trans hw173_0), ((HB.out.cell (World.block_lt_of_cell? w _ hw173_1)).trans hw173_1), ((HB.out.cell (World.block_lt_of_cell? w _ hw173_2)).trans hw173_2)⟩ (fun hHeld => ?_); refine with_tabW tarnref09_PutAll.tab8 tarnref09_PutAll.bits8 (fun HT_ HW_ => ?_)
                generalize wr.drew = w18 at HB hx173_0 hx173_1 hx173_2 hHeld ⊢
                refine pure_ (i := 0) (N := some 28) (v := ?_) (a' := ?_) #[true, false, false, false, false, false, false, false, false, false, false, false] rfl rfl (any_of HT_.out (by kernel_rfl)) (fun _ _ _ h => h) (Or.inl ⟨by rfl, ?_⟩) ?_ ?_
                rotate_left
                · intro w'
                  go_simp
                  with_reducible rfl
                rotate_left
                · simp only [Act.put, List.setIfInBounds_toArray, List.set_cons_zero, List.set_cons_succ, i64_w, i32_w]
                  rfl
                refine pure_ (i := 1) (N := some 29) (v := ?_) (a' := ?_) #[true, true, false, false, false, false, false, false, false, false, false, false] rfl rfl (any_of HT_.out (by kernel_rfl)) (fun _ _ _ h => h) (Or.inl ⟨by rfl, ?_⟩) ?_ ?_
                rotate_left
                · intro w'
                  go_simp
                  with_reducible rfl
                rotate_left
                · simp only [Act.put, List.setIfInBounds_toArray, List.set_cons_zero, List.set_cons_succ, i64_w, i32_w]
                  rfl
                refine pure_ (i := 3) (N := some 31) (v := ?_) (a' := ?_) #[true, true, false, true, false, false, false, false, false, false, false, false] rfl rfl (any_of HT_.out (by kernel_rfl)) (fun _ _ _ h => h) (Or.inl ⟨by rfl, ?_⟩) ?_ ?_
                rotate_left
                · intro w'
                  go_simp
                  with_reducible rfl
                rotate_left
                · simp only [Act.put, List.setIfInBounds_toArray, List.set_cons_zero, List.set_cons_succ, i64_w, i32_w]
                  rfl
                refine pure_ (i := 4) (N := some 32) (v := ?_) (a' := ?_) #[true, true, false, true, true, false, false, false, false, false, false, false] rfl rfl (any_of HT_.out (by kernel_rfl)) (fun _ _ _ h => h) (Or.inl ⟨by rfl, ?_⟩) ?_ ?_
                rotate_left
                · intro w'
                  go_simp
                  with_reducible rfl
                rotate_left
                · simp only [Act.put, List.setIfInBounds_toArray, List.set_cons_zero, List.set_cons_succ, i64_w, i32_w]
                  rfl
                refine pure_ (i := 5) (N := some 33) (v := ?_) (a' := ?_) #[true, true, false, true, true, true, false, false, false, false, false, false] rfl rfl (any_of HT_.out (by kernel_rfl)) (fun _ _ _ h => h) (Or.inl ⟨by rfl, ?_⟩) ?_ ?_
                rotate_left
                · intro w'
                  go_simp
                  with_reducible rfl
                rotate_left
                · simp only [Act.put, List.setIfInBounds_toArray, List.set_cons_zero, List.set_cons_succ, i64_w, i32_w]
                  rfl
                refine pure_ (i := 6) (N := some 34) (v := ?_) (a' := ?_) #[true, true, false, true, true, true, true, false, false, false, false, false] rfl rfl (any_of HT_.out (by kernel_rfl)) (fun _ _ _ h => h) (Or.inl ⟨by rfl, ?_⟩) ?_ ?_
                rotate_left
                · intro w'
                  go_simp
                  with_reducible rfl
                rotate_left
                · simp only [Act.put, List.setIfInBounds_toArray, List.set_cons_zero, List.set_cons_succ, i64_w, i32_w]
                  rfl
                refine take_ (i := 7) (N := some 35) (v := ?_) (a' := ?_) #[true, true, false, true, true, true, true, true, false, false, false, false] rfl rfl (take_ofW HT_.out HW_.out (by kernel_rfl)) (fun _ _ _ h => h) (Or.inl ⟨by rfl, ?_⟩) hHeld ?_ ?_
                rotate_left
                · rintro w' ⟨s0, s1, s2⟩
                  go_simp
                  with_reducible rfl
                rotate_left
                · simp only [Act.put, List.setIfInBounds_toArray, List.set_cons_zero, List.set_cons_succ, i64_w, i32_w]
                  rfl
                refine one_ (i := 2) (N := some 30) #[true, true, true, true, true, true, true, true, false, false, false, false] rfl rfl (one_of HT_.out (by kernel_rfl)) (by decide) (fun K hK => ?_)
                refine goes_ Try.func68 (by kernel_rfl) rfl #[.int .u64 0] (by rfl) rfl rfl (by (try simp only [List.map_toArray, List.map_cons, List.map_nil]); first | done | rfl | (simp only [List.length_drop, List.length_take]; rfl)) ?_
                with_reducible refine (tarnref01_Put.calls 0 t172 _ A14.out).mono ?_
                rintro e w19 ⟨rfl, hb⟩
                refine ⟨_, rfl, ?_⟩
                have n0_ := Aside0.mk (below_step (by repeat (first | (with_reducible first | exact HB.out | apply below_alloc | apply pw_below_drewN | apply below_drew1) | exact HB.out)) hb)
                clear HB
                have HB := n0_
                clear n0_
                (try clear hb)
                (try clear hb2)
                (try clear hk)
                (try clear hi)
                refine hK.out _ _ ⟨((HB.out.cell (World.block_lt_of_cell? w _ hw173_0)).trans hw173_0), ((HB.out.cell (World.block_lt_of_cell? w _ hw173_1)).trans hw173_1), ((HB.out.cell (World.block_lt_of_cell? w _ hw173_2)).trans hw173_2)⟩ (fun hHeld => ?_)
                clear hK K
                refine norm_ (a' := ?_) ?_ ?_
                rotate_left
                · show Act.put _ (some 30) _ = _
                  simp only [Act.put, List.setIfInBounds_toArray, List.set_cons_zero, List.set_cons_succ, i64_w, i32_w]
                  rfl
                refine one_ (i := 8) (N := some 36) #[true, true, true, true, true, true, true, true, true, false, false, false] rfl rfl (one_of HT_.out (by kernel_rfl)) (by decide) (fun K hK => ?_)
                refine goes_ Try.func69 (by kernel_rfl) rfl #[.agg #[.int .u64 ((rd_T30 l0 x4_1).f1.f0), .string ((rd_T30 l0 x4_1).f1.f1)]] (by rfl) rfl rfl (by (try simp only [List.map_toArray, List.map_cons, List.map_nil]); first | done | rfl | (simp only [List.length_drop, List.length_take]; rfl)) ?_
                with_reducible refine (tarnref08_Put.calls ((rd_T30 l0 x4_1).f1.f0) ((rd_T30 l0 x4_1).f1.f1) t174 _ A15.out).mono ?_
                rintro e w20 ⟨rfl, hb⟩
                refine ⟨_, rfl, ?_⟩
                have n0_ := Aside0.mk (below_step (by repeat (first | (with_reducible first | exact HB.out | apply below_alloc | apply pw_below_drewN | apply below_drew1) | exact HB.out)) hb)
                clear HB
                have HB := n0_
                clear n0_
                (try clear hb)
                (try clear hb2)
                (try clear hk)
                (try clear hi)
                refine hK.out _ _ ⟨((HB.out.cell (World.block_lt_of_cell? w _ hw173_0)).trans hw173_0), ((HB.out.cell (World.block_lt_of_cell? w _ hw173_1)).trans hw173_1), ((HB.out.cell (World.block_lt_of_cell? w _ hw173_2)).trans hw173_2)⟩ (fun hHeld => ?_)
                clear hK K
                refine norm_ (a' := ?_) ?_ ?_
                rotate_left
                · show Act.put _ (some 36) _ = _
                  simp only [Act.put, List.setIfInBounds_toArray, List.set_cons_zero, List.set_cons_succ, i64_w, i32_w]
                  rfl
                refine pure_ (i := 9) (N := some 37) (v := ?_) (a' := ?_) #[true, true, true, true, true, true, true, true, true, true, false, false] rfl rfl (any_of HT_.out (by kernel_rfl)) (fun _ _ _ h => h) (Or.inl ⟨by rfl, ?_⟩) ?_ ?_
                rotate_left
                · intro w'
                  go_simp
                  with_reducible rfl
                rotate_left
                · simp only [Act.put, List.setIfInBounds_toArray, List.set_cons_zero, List.set_cons_succ, i64_w, i32_w]
                  rfl
                refine pure_ (i := 10) (N := some 38) (v := ?_) (a' := ?_) #[true, true, true, true, true, true, true, true, true, true, true, false] rfl rfl (any_of HT_.out (by kernel_rfl)) (fun _ _ _ h => h) (Or.inl ⟨by rfl, ?_⟩) ?_ ?_
                rotate_left
                · intro w'
                  go_simp
                  with_reducible rfl
                rotate_left
                · simp only [Act.put, List.setIfInBounds_toArray, List.set_cons_zero, List.set_cons_succ, i64_w, i32_w]
                  rfl
                refine pure_ (i := 11) (N := some 3) (v := ?_) (a' := ?_) #[true, true, true, true, true, true, true, true, true, true, true, true] rfl rfl (any_of HT_.out (by kernel_rfl)) (fun _ _ _ h => h) (Or.inl ⟨by rfl, ?_⟩) ?_ ?_
                rotate_left
                · intro w'
                  go_simp
                  with_reducible rfl
                rotate_left
                · simp only [Act.put, List.setIfInBounds_toArray, List.set_cons_zero, List.set_cons_succ, i64_w, i32_w]
                  rfl
                refine done_ (done_of HT_.out (by kernel_rfl)) ?_
                try go_wp2
                go_roundg k1
                case measure => have := HK1.out; omega
                case rel => exact ⟨(x3_1 ++ (t172 ++ t174)), (wrap64 (x4_1 + 1)), (by first | rfl | (simp; done) | (simp [*]; done)), (by first | rfl | (simp; done) | (simp [*]; done)), H', ⟨by have := HK1.out; omega⟩, ⟨by repeat (first | (with_reducible first | exact HB.out | apply below_alloc | apply pw_below_drewN | apply below_drew1) | exact HB.out)⟩⟩
              · rw [if_neg c17] at H
                exact absurd H (by simp)
            · rw [if_neg c16] at H
              exact absurd H (by simp)
        · rw [if_neg c5] at H
          exact absurd H (by simp)
      · rw [if_neg c4] at H
        have c4b0 : decide (x4_1 < (l0.length : Int)) = false := decide_eq_false c4
        clear c4
        obtain rfl := Option.some.inj H
        go_wp2
        go_ret
        exact ⟨by first | rfl | (simp [errW_none, errW_some] <;> rfl) | (simp [*, errW_none, errW_some] <;> rfl), by repeat (first | (with_reducible first | exact HB.out | apply below_alloc | apply pw_below_drewN | apply below_drew1) | exact HB.out)⟩
end Go.Proofs.Ytjohfkpgghnpeaa.PRef
end
section
namespace Go.Proofs.Ytjohfkpgghnpeaa.PRef
open Go.RowKit Go.Proofs.YtjohfkpgghnpeaaW.PrintWords Go.Proofs.YtjohfkpgghnpeaaW.PrintLast Go.Proofs.YtjohfkpgghnpeaaW.PrintMore
attribute [local go_sem] max2_int min2_int max_two min_two
open Go.Proofs.Ytjohfkpgghnpeaa.Gv Go.Proofs.Ytjohfkpgghnpeaa.PNum
set_option linter.unusedVariables false
set_option linter.unusedSimpArgs false
end Go.Proofs.Ytjohfkpgghnpeaa.PRef
end
section
namespace Go.Proofs.Ytjohfkpgghnpeaa.PRef
open Go.RowKit Go.Proofs.YtjohfkpgghnpeaaW.PrintWords Go.Proofs.YtjohfkpgghnpeaaW.PrintLast Go.Proofs.YtjohfkpgghnpeaaW.PrintMore
attribute [local go_sem] max2_int min2_int max_two min_two
open Go.Proofs.Ytjohfkpgghnpeaa.Gv Go.Proofs.Ytjohfkpgghnpeaa.PNum
set_option linter.unusedVariables false
set_option linter.unusedSimpArgs false
end Go.Proofs.Ytjohfkpgghnpeaa.PRef
end
section
namespace Go.Proofs.Ytjohfkpgghnpeaa.PRef
open Go.RowKit Go.Proofs.YtjohfkpgghnpeaaW.PrintWords Go.Proofs.YtjohfkpgghnpeaaW.PrintLast Go.Proofs.YtjohfkpgghnpeaaW.PrintMore
attribute [local go_sem] max2_int min2_int max_two min_two
open Go.Proofs.Ytjohfkpgghnpeaa.Gv Go.Proofs.Ytjohfkpgghnpeaa.PNum
set_option linter.unusedVariables false
set_option linter.unusedSimpArgs false
end Go.Proofs.Ytjohfkpgghnpeaa.PRef
end
section
namespace Go.Proofs.Ytjohfkpgghnpeaa.PRef
open Go.RowKit Go.Proofs.YtjohfkpgghnpeaaW.PrintWords Go.Proofs.YtjohfkpgghnpeaaW.PrintLast Go.Proofs.YtjohfkpgghnpeaaW.PrintMore
attribute [local go_sem] max2_int min2_int max_two min_two
open Go.Proofs.Ytjohfkpgghnpeaa.Gv Go.Proofs.Ytjohfkpgghnpeaa.PNum
set_option linter.unusedVariables false
set_option linter.unusedSimpArgs false
end Go.Proofs.Ytjohfkpgghnpeaa.PRef
end
section
namespace Go.Proofs.Ytjohfkpgghnpeaa.PRef
open Go.RowKit Go.Proofs.YtjohfkpgghnpeaaW.PrintWords Go.Proofs.YtjohfkpgghnpeaaW.PrintLast Go.Proofs.YtjohfkpgghnpeaaW.PrintMore
attribute [local go_sem] max2_int min2_int max_two min_two
open Go.Proofs.Ytjohfkpgghnpeaa.Gv Go.Proofs.Ytjohfkpgghnpeaa.PNum
set_option linter.unusedVariables false
set_option linter.unusedSimpArgs false
def tarnref08_Take.j0 : Nat → Bool → ByteArray → Int → Int → ByteArray → Option (ByteArray × Int × Int × ByteArray)
  | 0, _, _, _, _, _ => none
  | k + 1, x28, x182000, x182001, x186000, x186001 => if x28 = true then ((tarnref01_R_Fail.f x182000 x182001 3).bind fun bt187 => (if bt187.2 = 0 then (some (bt187.1, bt187.2, x186000, x186001)) else (some (bt187.1, bt187.2, 0, (⟨#[]⟩ : ByteArray))))) else (if x182001 = 0 then (some (x182000, x182001, x186000, x186001)) else (some (x182000, x182001, 0, (⟨#[]⟩ : ByteArray))))
def tarnref08_Take.f (k : Nat) (a0_0 : ByteArray) (a0_1 : Int) : Option (ByteArray × Int × Int × ByteArray) := (tarnref01_R_Num.f k a0_0 a0_1 18446744073709551615).bind fun bt178 => ((tarnref01_R_Text.f k bt178.1 bt178.2.1 32).bind fun bt182 => (if bt182.2.1 = 0 then ((tarnref08_May.f bt178.2.2 bt182.2.2).bind fun t186 => (tarnref08_Take.j0 k (!t186) bt182.1 bt182.2.1 bt178.2.2 bt182.2.2)) else (tarnref08_Take.j0 k false bt182.1 bt182.2.1 bt178.2.2 bt182.2.2)))
set_option maxHeartbeats 8000000 in
set_option maxRecDepth 100000 in
theorem tarnref08_Take.calls (k : Nat) (a0_0 : ByteArray) (a0_1 : Int) (r1 : ByteArray) (r2 : Int) (r3 : Int) (r4 : ByteArray) (w : World) (h : tarnref08_Take.f k a0_0 a0_1 = some (r1, r2, r3, r4)) :
    Calls Try.prog 74 #[.agg #[.string a0_0, .int .i64 a0_1]] w fun e w' => e = .returned (.tuple #[.agg #[.string r1, .int .i64 r2], .agg #[.int .u64 r3, .string r4]]) ∧ Below w.heap.size w w' := by
  have hu77 := Try.underlying77
  have hu28 := Try.underlying28
  have HB := Aside0.mk (Below.refl w.heap.size w)
  have H : ((tarnref01_R_Num.f k a0_0 a0_1 18446744073709551615).bind fun bt178 => ((tarnref01_R_Text.f k bt178.1 bt178.2.1 32).bind fun bt182 => (if bt182.2.1 = 0 then ((tarnref08_May.f bt178.2.2 bt182.2.2).bind fun t186 => (tarnref08_Take.j0 k (!t186) bt182.1 bt182.2.1 bt178.2.2 bt182.2.2)) else (tarnref08_Take.j0 k false bt182.1 bt182.2.1 bt178.2.2 bt182.2.2)))) = some (r1, r2, r3, r4) := h
  clear h
  replace H := Option.bind_eq_some_iff.mp H
  obtain ⟨⟨t178, t179, t180⟩, A20, H⟩ := H
  replace H : ((tarnref01_R_Text.f k t178 t179 32).bind fun bt182 => (if bt182.2.1 = 0 then ((tarnref08_May.f t180 bt182.2.2).bind fun t186 => (tarnref08_Take.j0 k (!t186) bt182.1 bt182.2.1 t180 bt182.2.2)) else (tarnref08_Take.j0 k false bt182.1 bt182.2.1 t180 bt182.2.2))) = some (r1, r2, r3, r4) := H
  have A2 := Aside0.mk A20
  clear A20
  replace H := Option.bind_eq_some_iff.mp H
  obtain ⟨⟨t182, t183, t184⟩, A30, H⟩ := H
  replace H : (if t183 = 0 then ((tarnref08_May.f t180 t184).bind fun t186 => (tarnref08_Take.j0 k (!t186) t182 t183 t180 t184)) else (tarnref08_Take.j0 k false t182 t183 t180 t184)) = some (r1, r2, r3, r4) := H
  have A3 := Aside0.mk A30
  clear A30
  have HC4 := Aside0.mk H
  clear H
  go_enter Try.func74, Try.ntmps74
  go_upto_region 4 with (first | ((with_reducible refine gate_dst (N := 1) rfl ?_); refine box_event ?hg (N := 1) ?hd (cs := #[.string a0_0, .int .i64 a0_1]) (t := 77) ?hr ?_; (case hd => rfl); (case hg => rfl); (case hr => first | (go_simp; done) | (go_simp; rfl)); intro gb175 hg w5 hbox hb; have n0_ := Aside0.mk (below_step (by repeat (first | (with_reducible first | exact HB.out | apply below_alloc | apply pw_below_drewN | apply below_drew1) | exact HB.out)) hb); have n1_ := Aside0.mk (hbox); have n2_ := Aside0.mk ((by rw [hg]; exact (below_size (by repeat (first | (with_reducible first | exact HB.out | apply below_alloc | apply pw_below_drewN | apply below_drew1) | exact HB.out))) : w.heap.size ≤ gb175)); have n3_ := Aside0.mk ((by rw [hg]; exact (below_size (by repeat (first | (with_reducible first | exact HB.out | apply below_alloc | apply pw_below_drewN | apply below_drew1) | exact HB.out))) : w.heap.size ≤ gb175)); clear HB; have HB := n0_; have BK175 := n1_; have GW175 := n2_; have GE175 := n3_; clear n0_ n1_ n2_ n3_; clear hb hbox hg) | ((with_reducible refine gate_dst (N := 2) rfl ?_); refine box_event ?hg (N := 2) ?hd (cs := #[.string (⟨#[]⟩ : ByteArray), .int .i64 0]) (t := 77) ?hr ?_; (case hd => rfl); (case hg => rfl); (case hr => first | (go_simp; done) | (go_simp; rfl)); intro gb176 hg w6 hbox hb; have n0_ := Aside0.mk (blk_below (g := gb175) (o := .cells #[.string a0_0, .int .i64 a0_1] 77 (0, 0)) (by (with_reducible repeat (first | refine blk_drewN ?_ _ | refine blk_drew ?_ | refine blk_alloc ?_ _)); exact BK175.out) hb); have n1_ := Aside0.mk (below_step (by repeat (first | (with_reducible first | exact HB.out | apply below_alloc | apply pw_below_drewN | apply below_drew1 | refine below_set ?_ GE175.out) | exact HB.out)) hb); have n2_ := Aside0.mk (hbox); have n3_ := Aside0.mk ((by rw [hg]; exact (below_size (by repeat (first | (with_reducible first | exact HB.out | apply below_alloc | apply pw_below_drewN | apply below_drew1 | refine below_set ?_ GE175.out) | exact HB.out))) : w.heap.size ≤ gb176)); have n4_ := Aside0.mk ((by rw [hg]; exact (below_size (by repeat (first | (with_reducible first | exact HB.out | apply below_alloc | apply pw_below_drewN | apply below_drew1 | refine below_set ?_ GE175.out) | exact HB.out))) : w.heap.size ≤ gb176)); have n5_ := Aside0.mk ((by rw [hg]; exact Nat.ne_of_lt (blk_lt (g := gb175) (o := .cells #[.string a0_0, .int .i64 a0_1] 77 (0, 0)) (by (with_reducible repeat (first | refine blk_drewN ?_ _ | refine blk_drew ?_ | refine blk_alloc ?_ _)); exact BK175.out)) : gb175 ≠ gb176)); have n6_ := Aside0.mk ((by rw [hg]; exact Nat.ne_of_gt (blk_lt (g := gb175) (o := .cells #[.string a0_0, .int .i64 a0_1] 77 (0, 0)) (by (with_reducible repeat (first | refine blk_drewN ?_ _ | refine blk_drew ?_ | refine blk_alloc ?_ _)); exact BK175.out)) : gb176 ≠ gb175)); clear BK175; clear HB; have BK175 := n0_; have HB := n1_; have BK176 := n2_; have GW176 := n3_; have GE176 := n4_; have NB175_176 := n5_; have NB176_175 := n6_; clear n0_ n1_ n2_ n3_ n4_ n5_ n6_; clear hb hbox hg) | ((with_reducible refine gate_dst (N := 3) rfl ?_); refine box_event ?hg (N := 3) ?hd (cs := #[.int .u64 0, .string (⟨#[]⟩ : ByteArray)]) (t := 28) ?hr ?_; (case hd => rfl); (case hg => rfl); (case hr => first | (go_simp; done) | (go_simp; rfl)); intro gb177 hg w7 hbox hb; have n0_ := Aside0.mk (blk_below (g := gb175) (o := .cells #[.string a0_0, .int .i64 a0_1] 77 (0, 0)) (by (with_reducible repeat (first | refine blk_drewN ?_ _ | refine blk_drew ?_ | refine blk_alloc ?_ _)); exact BK175.out) hb); have n1_ := Aside0.mk (blk_below (g := gb176) (o := .cells #[.string (⟨#[]⟩ : ByteArray), .int .i64 0] 77 (0, 0)) (by (with_reducible repeat (first | refine blk_drewN ?_ _ | refine blk_drew ?_ | refine blk_alloc ?_ _)); exact BK176.out) hb); have n2_ := Aside0.mk (below_step (by repeat (first | (with_reducible first | exact HB.out | apply below_alloc | apply pw_below_drewN | apply below_drew1 | refine below_set ?_ GE175.out | refine below_set ?_ GE176.out) | exact HB.out)) hb); have n3_ := Aside0.mk (hbox); have n4_ := Aside0.mk ((by rw [hg]; exact (below_size (by repeat (first | (with_reducible first | exact HB.out | apply below_alloc | apply pw_below_drewN | apply below_drew1 | refine below_set ?_ GE175.out | refine below_set ?_ GE176.out) | exact HB.out))) : w.heap.size ≤ gb177)); have n5_ := Aside0.mk ((by rw [hg]; exact (below_size (by repeat (first | (with_reducible first | exact HB.out | apply below_alloc | apply pw_below_drewN | apply below_drew1 | refine below_set ?_ GE175.out | refine below_set ?_ GE176.out) | exact HB.out))) : w.heap.size ≤ gb177)); have n6_ := Aside0.mk ((by rw [hg]; exact Nat.ne_of_lt (blk_lt (g := gb175) (o := .cells #[.string a0_0, .int .i64 a0_1] 77 (0, 0)) (by (with_reducible repeat (first | refine blk_drewN ?_ _ | refine blk_drew ?_ | refine blk_alloc ?_ _)); exact BK175.out)) : gb175 ≠ gb177)); have n7_ := Aside0.mk ((by rw [hg]; exact Nat.ne_of_gt (blk_lt (g := gb175) (o := .cells #[.string a0_0, .int .i64 a0_1] 77 (0, 0)) (by (with_reducible repeat (first | refine blk_drewN ?_ _ | refine blk_drew ?_ | refine blk_alloc ?_ _)); exact BK175.out)) : gb177 ≠ gb175)); have n8_ := Aside0.mk ((by rw [hg]; exact Nat.ne_of_lt (blk_lt (g := gb176) (o := .cells #[.string (⟨#[]⟩ : ByteArray), .int .i64 0] 77 (0, 0)) (by (with_reducible repeat (first | refine blk_drewN ?_ _ | refine blk_drew ?_ | refine blk_alloc ?_ _)); exact BK176.out)) : gb176 ≠ gb177)); have n9_ := Aside0.mk ((by rw [hg]; exact Nat.ne_of_gt (blk_lt (g := gb176) (o := .cells #[.string (⟨#[]⟩ : ByteArray), .int .i64 0] 77 (0, 0)) (by (with_reducible repeat (first | refine blk_drewN ?_ _ | refine blk_drew ?_ | refine blk_alloc ?_ _)); exact BK176.out)) : gb177 ≠ gb176)); clear BK175; clear BK176; clear HB; have BK175 := n0_; have BK176 := n1_; have HB := n2_; have BK177 := n3_; have GW177 := n4_; have GE177 := n5_; have NB175_177 := n6_; have NB177_175 := n7_; have NB176_177 := n8_; have NB177_176 := n9_; clear n0_ n1_ n2_ n3_ n4_ n5_ n6_ n7_ n8_ n9_; clear hb hbox hg; have hnb8 := NB175_176.out; have hnc8 := NB176_175.out; have hnb9 := NB175_177.out; have hnc9 := NB177_175.out; have hcz10_0 : w7.cell? ⟨gb175, 0, none⟩ = some (.string a0_0) := (blk_cell BK175.out 0).trans rfl; have hcz10_1 : w7.cell? ⟨gb175, 1, none⟩ = some (.int .i64 a0_1) := (blk_cell BK175.out 1).trans rfl; have hfz10_0 := blk_frozen BK175.out 0; have hfz10_1 := blk_frozen BK175.out 1) | ((with_reducible refine gate_callee (f := 97) rfl ?_); refine goesL_ (some 10) rfl rfl Try.func97 (by kernel_rfl) rfl #[.agg #[.string a0_0, .int .i64 a0_1], .int .u64 18446744073709551615] rfl (by (try simp only [List.map_toArray, List.map_cons, List.map_nil]); first | done | rfl | (simp only [List.length_drop, List.length_take]; rfl)) ?_; (with_reducible refine (tarnref01_R_Num.calls k a0_0 a0_1 18446744073709551615 t178 t179 t180 _ A2.out).mono ?_); rintro e w11 ⟨rfl, hb⟩; refine ⟨_, rfl, ?_⟩; have n0_ := Aside0.mk (blk_below (g := gb175) (o := .cells #[.string a0_0, .int .i64 a0_1] 77 (0, 0)) (by (with_reducible repeat (first | refine blk_drewN ?_ _ | refine blk_drew ?_ | refine blk_alloc ?_ _)); exact BK175.out) hb); have n1_ := Aside0.mk (blk_below (g := gb176) (o := .cells #[.string (⟨#[]⟩ : ByteArray), .int .i64 0] 77 (0, 0)) (by (with_reducible repeat (first | refine blk_drewN ?_ _ | refine blk_drew ?_ | refine blk_alloc ?_ _)); exact BK176.out) hb); have n2_ := Aside0.mk (blk_below (g := gb177) (o := .cells #[.int .u64 0, .string (⟨#[]⟩ : ByteArray)] 28 (0, 0)) (by (with_reducible repeat (first | refine blk_drewN ?_ _ | refine blk_drew ?_ | refine blk_alloc ?_ _)); exact BK177.out) hb); have n3_ := Aside0.mk (below_step (by repeat (first | (with_reducible first | exact HB.out | apply below_alloc | apply pw_below_drewN | apply below_drew1 | refine below_set ?_ GE175.out | refine below_set ?_ GE176.out | refine below_set ?_ GE177.out) | exact HB.out)) hb); clear BK175; clear BK176; clear BK177; clear HB; have BK175 := n0_; have BK176 := n1_; have BK177 := n2_; have HB := n3_; clear n0_ n1_ n2_ n3_; (try clear hb); (try clear hb2); (try clear hk); (try clear hi)) | ((with_reducible refine gate_dst (N := 4) rfl ?_); refine box_event ?hg (N := 4) ?hd (cs := #[.string (⟨#[]⟩ : ByteArray), .int .i64 0]) (t := 77) ?hr ?_; (case hd => rfl); (case hg => rfl); (case hr => first | (go_simp; done) | (go_simp; rfl)); intro gb181 hg w12 hbox hb; have n0_ := Aside0.mk (blk_below (g := gb175) (o := .cells #[.string a0_0, .int .i64 a0_1] 77 (0, 0)) (by (with_reducible repeat (first | refine blk_drewN ?_ _ | refine blk_drew ?_ | refine blk_alloc ?_ _)); exact BK175.out) hb); have n1_ := Aside0.mk (blk_below (g := gb176) (o := .cells #[.string (⟨#[]⟩ : ByteArray), .int .i64 0] 77 (0, 0)) (by (with_reducible repeat (first | refine blk_drewN ?_ _ | refine blk_drew ?_ | refine blk_alloc ?_ _)); exact BK176.out) hb); have n2_ := Aside0.mk (blk_below (g := gb177) (o := .cells #[.int .u64 0, .string (⟨#[]⟩ : ByteArray)] 28 (0, 0)) (by (with_reducible repeat (first | refine blk_drewN ?_ _ | refine blk_drew ?_ | refine blk_alloc ?_ _)); exact BK177.out) hb); have n3_ := Aside0.mk (below_step (by repeat (first | (with_reducible first | exact HB.out | apply below_alloc | apply pw_below_drewN | apply below_drew1 | refine below_set ?_ GE175.out | refine below_set ?_ GE176.out | refine below_set ?_ GE177.out) | exact HB.out)) hb); have n4_ := Aside0.mk (hbox); have n5_ := Aside0.mk ((by rw [hg]; exact (below_size (by repeat (first | (with_reducible first | exact HB.out | apply below_alloc | apply pw_below_drewN | apply below_drew1 | refine below_set ?_ GE175.out | refine below_set ?_ GE176.out | refine below_set ?_ GE177.out) | exact HB.out))) : w.heap.size ≤ gb181)); have n6_ := Aside0.mk ((by rw [hg]; exact (below_size (by repeat (first | (with_reducible first | exact HB.out | apply below_alloc | apply pw_below_drewN | apply below_drew1 | refine below_set ?_ GE175.out | refine below_set ?_ GE176.out | refine below_set ?_ GE177.out) | exact HB.out))) : w.heap.size ≤ gb181)); have n7_ := Aside0.mk ((by rw [hg]; exact Nat.ne_of_lt (blk_lt (g := gb175) (o := .cells #[.string a0_0, .int .i64 a0_1] 77 (0, 0)) (by (with_reducible repeat (first | refine blk_drewN ?_ _ | refine blk_drew ?_ | refine blk_alloc ?_ _)); exact BK175.out)) : gb175 ≠ gb181)); have n8_ := Aside0.mk ((by rw [hg]; exact Nat.ne_of_gt (blk_lt (g := gb175) (o := .cells #[.string a0_0, .int .i64 a0_1] 77 (0, 0)) (by (with_reducible repeat (first | refine blk_drewN ?_ _ | refine blk_drew ?_ | refine blk_alloc ?_ _)); exact BK175.out)) : gb181 ≠ gb175)); have n9_ := Aside0.mk ((by rw [hg]; exact Nat.ne_of_lt (blk_lt (g := gb176) (o := .cells #[.string (⟨#[]⟩ : ByteArray), .int .i64 0] 77 (0, 0)) (by (with_reducible repeat (first | refine blk_drewN ?_ _ | refine blk_drew ?_ | refine blk_alloc ?_ _)); exact BK176.out)) : gb176 ≠ gb181)); have n10_ := Aside0.mk ((by rw [hg]; exact Nat.ne_of_gt (blk_lt (g := gb176) (o := .cells #[.string (⟨#[]⟩ : ByteArray), .int .i64 0] 77 (0, 0)) (by (with_reducible repeat (first | refine blk_drewN ?_ _ | refine blk_drew ?_ | refine blk_alloc ?_ _)); exact BK176.out)) : gb181 ≠ gb176)); have n11_ := Aside0.mk ((by rw [hg]; exact Nat.ne_of_lt (blk_lt (g := gb177) (o := .cells #[.int .u64 0, .string (⟨#[]⟩ : ByteArray)] 28 (0, 0)) (by (with_reducible repeat (first | refine blk_drewN ?_ _ | refine blk_drew ?_ | refine blk_alloc ?_ _)); exact BK177.out)) : gb177 ≠ gb181)); have n12_ := Aside0.mk ((by rw [hg]; exact Nat.ne_of_gt (blk_lt (g := gb177) (o := .cells #[.int .u64 0, .string (⟨#[]⟩ : ByteArray)] 28 (0, 0)) (by (with_reducible repeat (first | refine blk_drewN ?_ _ | refine blk_drew ?_ | refine blk_alloc ?_ _)); exact BK177.out)) : gb181 ≠ gb177)); clear BK175; clear BK176; clear BK177; clear HB; have BK175 := n0_; have BK176 := n1_; have BK177 := n2_; have HB := n3_; have BK181 := n4_; have GW181 := n5_; have GE181 := n6_; have NB175_181 := n7_; have NB181_175 := n8_; have NB176_181 := n9_; have NB181_176 := n10_; have NB177_181 := n11_; have NB181_177 := n12_; clear n0_ n1_ n2_ n3_ n4_ n5_ n6_ n7_ n8_ n9_ n10_ n11_ n12_; clear hb hbox hg; have hnb13 := NB181_175.out; have hnc13 := NB175_181.out; have hnb14 := NB181_176.out; have hnc14 := NB176_181.out; have hnb15 := NB181_177.out; have hnc15 := NB177_181.out; have hcz16_0 : w12.cell? ⟨gb181, 0, none⟩ = some (.string (⟨#[]⟩ : ByteArray)) := (blk_cell BK181.out 0).trans rfl; have hcz16_1 : w12.cell? ⟨gb181, 1, none⟩ = some (.int .i64 0) := (blk_cell BK181.out 1).trans rfl; have hfz16_0 := blk_frozen BK181.out 0; have hfz16_1 := blk_frozen BK181.out 1) | ((with_reducible refine gate_callee (f := 98) rfl ?_); refine goesL_ (some 15) rfl rfl Try.func98 (by kernel_rfl) rfl #[.agg #[.string t178, .int .i64 t179], .int .i64 32] rfl (by (try simp only [List.map_toArray, List.map_cons, List.map_nil]); first | done | rfl | (simp only [List.length_drop, List.length_take]; rfl)) ?_; (with_reducible refine (tarnref01_R_Text.calls k t178 t179 32 t182 t183 t184 _ A3.out).mono ?_); rintro e w17 ⟨rfl, hb⟩; refine ⟨_, rfl, ?_⟩; have n0_ := Aside0.mk (blk_below (g := gb175) (o := .cells #[.string a0_0, .int .i64 a0_1] 77 (0, 0)) (by (with_reducible repeat (first | refine blk_drewN ?_ _ | refine blk_drew ?_ | refine blk_alloc ?_ _)); refine blk_far ?_ NB175_181.out _; (with_reducible repeat (first | refine blk_drewN ?_ _ | refine blk_drew ?_ | refine blk_alloc ?_ _)); refine blk_far ?_ NB175_181.out _; (with_reducible repeat (first | refine blk_drewN ?_ _ | refine blk_drew ?_ | refine blk_alloc ?_ _)); exact BK175.out) hb); have n1_ := Aside0.mk (blk_below (g := gb176) (o := .cells #[.string (⟨#[]⟩ : ByteArray), .int .i64 0] 77 (0, 0)) (by (with_reducible repeat (first | refine blk_drewN ?_ _ | refine blk_drew ?_ | refine blk_alloc ?_ _)); refine blk_far ?_ NB176_181.out _; (with_reducible repeat (first | refine blk_drewN ?_ _ | refine blk_drew ?_ | refine blk_alloc ?_ _)); refine blk_far ?_ NB176_181.out _; (with_reducible repeat (first | refine blk_drewN ?_ _ | refine blk_drew ?_ | refine blk_alloc ?_ _)); exact BK176.out) hb); have n2_ := Aside0.mk (blk_below (g := gb177) (o := .cells #[.int .u64 0, .string (⟨#[]⟩ : ByteArray)] 28 (0, 0)) (by (with_reducible repeat (first | refine blk_drewN ?_ _ | refine blk_drew ?_ | refine blk_alloc ?_ _)); refine blk_far ?_ NB177_181.out _; (with_reducible repeat (first | refine blk_drewN ?_ _ | refine blk_drew ?_ | refine blk_alloc ?_ _)); refine blk_far ?_ NB177_181.out _; (with_reducible repeat (first | refine blk_drewN ?_ _ | refine blk_drew ?_ | refine blk_alloc ?_ _)); exact BK177.out) hb); have n3_ := Aside0.mk (blk_below (g := gb181) (o := .cells #[.string t178, .int .i64 t179] 77 (0, 0)) (by (with_reducible repeat (first | refine blk_drewN ?_ _ | refine blk_drew ?_ | refine blk_alloc ?_ _)); refine blk_put (cs := #[.string t178, .int .i64 0]) ?_ 1 _ rfl; (with_reducible repeat (first | refine blk_drewN ?_ _ | refine blk_drew ?_ | refine blk_alloc ?_ _)); refine blk_put (cs := #[.string (⟨#[]⟩ : ByteArray), .int .i64 0]) ?_ 0 _ rfl; (with_reducible repeat (first | refine blk_drewN ?_ _ | refine blk_drew ?_ | refine blk_alloc ?_ _)); exact BK181.out) hb); have n4_ := Aside0.mk (below_step (by repeat (first | (with_reducible first | exact HB.out | apply below_alloc | apply pw_below_drewN | apply below_drew1 | refine below_set ?_ GE175.out | refine below_set ?_ GE176.out | refine below_set ?_ GE177.out | refine below_set ?_ GE181.out) | exact HB.out)) hb); clear BK175; clear BK176; clear BK177; clear BK181; clear HB; have BK175 := n0_; have BK176 := n1_; have BK177 := n2_; have BK181 := n3_; have HB := n4_; clear n0_ n1_ n2_ n3_ n4_; (try clear hb); (try clear hb2); (try clear hk); (try clear hi); have hcz18_0 : w17.cell? ⟨gb181, 0, none⟩ = some (.string t178) := (blk_cell BK181.out 0).trans rfl; have hcz18_1 : w17.cell? ⟨gb181, 1, none⟩ = some (.int .i64 t179) := (blk_cell BK181.out 1).trans rfl; have hfz18_0 := blk_frozen BK181.out 0; have hfz18_1 := blk_frozen BK181.out 1) | ((with_reducible refine gate_dst (N := 7) rfl ?_); refine box_event ?hg (N := 7) ?hd (cs := #[.int .u64 0, .string (⟨#[]⟩ : ByteArray)]) (t := 28) ?hr ?_; (case hd => rfl); (case hg => rfl); (case hr => first | (go_simp; done) | (go_simp; rfl)); intro gb185 hg w19 hbox hb; have n0_ := Aside0.mk (blk_below (g := gb175) (o := .cells #[.string a0_0, .int .i64 a0_1] 77 (0, 0)) (by (with_reducible repeat (first | refine blk_drewN ?_ _ | refine blk_drew ?_ | refine blk_alloc ?_ _)); refine blk_far ?_ NB175_181.out _; (with_reducible repeat (first | refine blk_drewN ?_ _ | refine blk_drew ?_ | refine blk_alloc ?_ _)); refine blk_far ?_ NB175_181.out _; (with_reducible repeat (first | refine blk_drewN ?_ _ | refine blk_drew ?_ | refine blk_alloc ?_ _)); exact BK175.out) hb); have n1_ := Aside0.mk (blk_below (g := gb176) (o := .cells #[.string (⟨#[]⟩ : ByteArray), .int .i64 0] 77 (0, 0)) (by (with_reducible repeat (first | refine blk_drewN ?_ _ | refine blk_drew ?_ | refine blk_alloc ?_ _)); refine blk_far ?_ NB176_181.out _; (with_reducible repeat (first | refine blk_drewN ?_ _ | refine blk_drew ?_ | refine blk_alloc ?_ _)); refine blk_far ?_ NB176_181.out _; (with_reducible repeat (first | refine blk_drewN ?_ _ | refine blk_drew ?_ | refine blk_alloc ?_ _)); exact BK176.out) hb); have n2_ := Aside0.mk (blk_below (g := gb177) (o := .cells #[.int .u64 0, .string (⟨#[]⟩ : ByteArray)] 28 (0, 0)) (by (with_reducible repeat (first | refine blk_drewN ?_ _ | refine blk_drew ?_ | refine blk_alloc ?_ _)); refine blk_far ?_ NB177_181.out _; (with_reducible repeat (first | refine blk_drewN ?_ _ | refine blk_drew ?_ | refine blk_alloc ?_ _)); refine blk_far ?_ NB177_181.out _; (with_reducible repeat (first | refine blk_drewN ?_ _ | refine blk_drew ?_ | refine blk_alloc ?_ _)); exact BK177.out) hb); have n3_ := Aside0.mk (blk_below (g := gb181) (o := .cells #[.string t182, .int .i64 t183] 77 (0, 0)) (by (with_reducible repeat (first | refine blk_drewN ?_ _ | refine blk_drew ?_ | refine blk_alloc ?_ _)); refine blk_put (cs := #[.string t182, .int .i64 t179]) ?_ 1 _ rfl; (with_reducible repeat (first | refine blk_drewN ?_ _ | refine blk_drew ?_ | refine blk_alloc ?_ _)); refine blk_put (cs := #[.string t178, .int .i64 t179]) ?_ 0 _ rfl; (with_reducible repeat (first | refine blk_drewN ?_ _ | refine blk_drew ?_ | refine blk_alloc ?_ _)); exact BK181.out) hb); have n4_ := Aside0.mk (below_step (by repeat (first | (with_reducible first | exact HB.out | apply below_alloc | apply pw_below_drewN | apply below_drew1 | refine below_set ?_ GE175.out | refine below_set ?_ GE176.out | refine below_set ?_ GE177.out | refine below_set ?_ GE181.out) | exact HB.out)) hb); have n5_ := Aside0.mk (hbox); have n6_ := Aside0.mk ((by rw [hg]; exact (below_size (by repeat (first | (with_reducible first | exact HB.out | apply below_alloc | apply pw_below_drewN | apply below_drew1 | refine below_set ?_ GE175.out | refine below_set ?_ GE176.out | refine below_set ?_ GE177.out | refine below_set ?_ GE181.out) | exact HB.out))) : w.heap.size ≤ gb185)); have n7_ := Aside0.mk ((by rw [hg]; exact (below_size (by repeat (first | (with_reducible first | exact HB.out | apply below_alloc | apply pw_below_drewN | apply below_drew1 | refine below_set ?_ GE175.out | refine below_set ?_ GE176.out | refine below_set ?_ GE177.out | refine below_set ?_ GE181.out) | exact HB.out))) : w.heap.size ≤ gb185)); have n8_ := Aside0.mk ((by rw [hg]; exact Nat.ne_of_lt (blk_lt (g := gb175) (o := .cells #[.string a0_0, .int .i64 a0_1] 77 (0, 0)) (by (with_reducible repeat (first | refine blk_drewN ?_ _ | refine blk_drew ?_ | refine blk_alloc ?_ _)); refine blk_far ?_ NB175_181.out _; (with_reducible repeat (first | refine blk_drewN ?_ _ | refine blk_drew ?_ | refine blk_alloc ?_ _)); refine blk_far ?_ NB175_181.out _; (with_reducible repeat (first | refine blk_drewN ?_ _ | refine blk_drew ?_ | refine blk_alloc ?_ _)); exact BK175.out)) : gb175 ≠ gb185)); have n9_ := Aside0.mk ((by rw [hg]; exact Nat.ne_of_gt (blk_lt (g := gb175) (o := .cells #[.string a0_0, .int .i64 a0_1] 77 (0, 0)) (by (with_reducible repeat (first | refine blk_drewN ?_ _ | refine blk_drew ?_ | refine blk_alloc ?_ _)); refine blk_far ?_ NB175_181.out _; (with_reducible repeat (first | refine blk_drewN ?_ _ | refine blk_drew ?_ | refine blk_alloc ?_ _)); refine blk_far ?_ NB175_181.out _; (with_reducible repeat (first | refine blk_drewN ?_ _ | refine blk_drew ?_ | refine blk_alloc ?_ _)); exact BK175.out)) : gb185 ≠ gb175)); have n10_ := Aside0.mk ((by rw [hg]; exact Nat.ne_of_lt (blk_lt (g := gb176) (o := .cells #[.string (⟨#[]⟩ : ByteArray), .int .i64 0] 77 (0, 0)) (by (with_reducible repeat (first | refine blk_drewN ?_ _ | refine blk_drew ?_ | refine blk_alloc ?_ _)); refine blk_far ?_ NB176_181.out _; (with_reducible repeat (first | refine blk_drewN ?_ _ | refine blk_drew ?_ | refine blk_alloc ?_ _)); refine blk_far ?_ NB176_181.out _; (with_reducible repeat (first | refine blk_drewN ?_ _ | refine blk_drew ?_ | refine blk_alloc ?_ _)); exact BK176.out)) : gb176 ≠ gb185)); have n11_ := Aside0.mk ((by rw [hg]; exact Nat.ne_of_gt (blk_lt (g := gb176) (o := .cells #[.string (⟨#[]⟩ : ByteArray), .int .i64 0] 77 (0, 0)) (by (with_reducible repeat (first | refine blk_drewN ?_ _ | refine blk_drew ?_ | refine blk_alloc ?_ _)); refine blk_far ?_ NB176_181.out _; (with_reducible repeat (first | refine blk_drewN ?_ _ | refine blk_drew ?_ | refine blk_alloc ?_ _)); refine blk_far ?_ NB176_181.out _; (with_reducible repeat (first | refine blk_drewN ?_ _ | refine blk_drew ?_ | refine blk_alloc ?_ _)); exact BK176.out)) : gb185 ≠ gb176)); have n12_ := Aside0.mk ((by rw [hg]; exact Nat.ne_of_lt (blk_lt (g := gb177) (o := .cells #[.int .u64 0, .string (⟨#[]⟩ : ByteArray)] 28 (0, 0)) (by (with_reducible repeat (first | refine blk_drewN ?_ _ | refine blk_drew ?_ | refine blk_alloc ?_ _)); refine blk_far ?_ NB177_181.out _; (with_reducible repeat (first | refine blk_drewN ?_ _ | refine blk_drew ?_ | refine blk_alloc ?_ _)); refine blk_far ?_ NB177_181.out _; (with_reducible repeat (first | refine blk_drewN ?_ _ | refine blk_drew ?_ | refine blk_alloc ?_ _)); exact BK177.out)) : gb177 ≠ gb185)); have n13_ := Aside0.mk ((by rw [hg]; exact Nat.ne_of_gt (blk_lt (g := gb177) (o := .cells #[.int .u64 0, .string (⟨#[]⟩ : ByteArray)] 28 (0, 0)) (by (with_reducible repeat (first | refine blk_drewN ?_ _ | refine blk_drew ?_ | refine blk_alloc ?_ _)); refine blk_far ?_ NB177_181.out _; (with_reducible repeat (first | refine blk_drewN ?_ _ | refine blk_drew ?_ | refine blk_alloc ?_ _)); refine blk_far ?_ NB177_181.out _; (with_reducible repeat (first | refine blk_drewN ?_ _ | refine blk_drew ?_ | refine blk_alloc ?_ _)); exact BK177.out)) : gb185 ≠ gb177)); have n14_ := Aside0.mk ((by rw [hg]; exact Nat.ne_of_lt (blk_lt (g := gb181) (o := .cells #[.string t182, .int .i64 t183] 77 (0, 0)) (by (with_reducible repeat (first | refine blk_drewN ?_ _ | refine blk_drew ?_ | refine blk_alloc ?_ _)); refine blk_put (cs := #[.string t182, .int .i64 t179]) ?_ 1 _ rfl; (with_reducible repeat (first | refine blk_drewN ?_ _ | refine blk_drew ?_ | refine blk_alloc ?_ _)); refine blk_put (cs := #[.string t178, .int .i64 t179]) ?_ 0 _ rfl; (with_reducible repeat (first | refine blk_drewN ?_ _ | refine blk_drew ?_ | refine blk_alloc ?_ _)); exact BK181.out)) : gb181 ≠ gb185)); have n15_ := Aside0.mk ((by rw [hg]; exact Nat.ne_of_gt (blk_lt (g := gb181) (o := .cells #[.string t182, .int .i64 t183] 77 (0, 0)) (by (with_reducible repeat (first | refine blk_drewN ?_ _ | refine blk_drew ?_ | refine blk_alloc ?_ _)); refine blk_put (cs := #[.string t182, .int .i64 t179]) ?_ 1 _ rfl; (with_reducible repeat (first | refine blk_drewN ?_ _ | refine blk_drew ?_ | refine blk_alloc ?_ _)); refine blk_put (cs := #[.string t178, .int .i64 t179]) ?_ 0 _ rfl; (with_reducible repeat (first | refine blk_drewN ?_ _ | refine blk_drew ?_ | refine blk_alloc ?_ _)); exact BK181.out)) : gb185 ≠ gb181)); clear BK175; clear BK176; clear BK177; clear BK181; clear HB; have BK175 := n0_; have BK176 := n1_; have BK177 := n2_; have BK181 := n3_; have HB := n4_; have BK185 := n5_; have GW185 := n6_; have GE185 := n7_; have NB175_185 := n8_; have NB185_175 := n9_; have NB176_185 := n10_; have NB185_176 := n11_; have NB177_185 := n12_; have NB185_177 := n13_; have NB181_185 := n14_; have NB185_181 := n15_; clear n0_ n1_ n2_ n3_ n4_ n5_ n6_ n7_ n8_ n9_ n10_ n11_ n12_ n13_ n14_ n15_; clear hb hbox hg; have hnb20 := NB185_175.out; have hnc20 := NB175_185.out; have hnb21 := NB185_176.out; have hnc21 := NB176_185.out; have hnb22 := NB185_177.out; have hnc22 := NB177_185.out; have hnb23 := NB185_181.out; have hnc23 := NB181_185.out; have hcz24_0 : w19.cell? ⟨gb185, 0, none⟩ = some (.int .u64 0) := (blk_cell BK185.out 0).trans rfl; have hcz24_1 : w19.cell? ⟨gb185, 1, none⟩ = some (.string (⟨#[]⟩ : ByteArray)) := (blk_cell BK185.out 1).trans rfl; have hfz24_0 := blk_frozen BK185.out 0; have hfz24_1 := blk_frozen BK185.out 1))
  (try simp only [Act.put, List.setIfInBounds_toArray, List.set_cons_zero, List.set_cons_succ])
  go_cut [28] (fun v28 wc => ∃ (kq : Nat) (x28_3 : Bool), v28 = .bool x28_3 ∧ Aside0 (tarnref08_Take.j0 kq x28_3 t182 t183 t180 t184 = some (r1, r2, r3, r4)) ∧ Aside0 (kq ≤ k) ∧ Aside0 (wc.heap[gb175]? = some (.cells #[.string a0_0, .int .i64 a0_1] 77 (0, 0))) ∧ Aside0 (wc.heap[gb176]? = some (.cells #[.string (⟨#[]⟩ : ByteArray), .int .i64 0] 77 (0, 0))) ∧ Aside0 (wc.heap[gb177]? = some (.cells #[.int .u64 0, .string (⟨#[]⟩ : ByteArray)] 28 (0, 0))) ∧ Aside0 (wc.heap[gb181]? = some (.cells #[.string t182, .int .i64 t183] 77 (0, 0))) ∧ Aside0 (wc.heap[gb185]? = some (.cells #[.int .u64 t180, .string t184] 28 (0, 0))) ∧ Aside0 (Below w.heap.size w wc))
  case first =>
    have H := HC4.out
    clear HC4
    by_cases c25 : t183 = 0
    · rw [if_pos c25] at H
      have c25b0 : (t183 == 0) = true := beq_iff_eq.mpr c25
      have c25b1 : (t183 != 0) = false := bne_eq_false_iff_eq.mpr c25
      clear c25
      (first | rw [c25b0] | (simp only [i64_w, i32_w]; rw [c25b0]) | skip)
      replace H := Option.bind_eq_some_iff.mp H
      obtain ⟨t186, A260, H⟩ := H
      replace H : (tarnref08_Take.j0 k (!t186) t182 t183 t180 t184) = some (r1, r2, r3, r4) := H
      have A26 := Aside0.mk A260
      clear A260
      have H' := Aside0.mk H
      clear H
      have hnb27 := NB181_175.out
      have hnc27 := NB175_181.out
      have hnb28 := NB181_176.out
      have hnc28 := NB176_181.out
      have hnb29 := NB181_177.out
      have hnc29 := NB177_181.out
      have hnb30 := NB181_185.out
      have hnc30 := NB185_181.out
      have hcz31_0 : w19.cell? ⟨gb181, 0, none⟩ = some (.string t182) := (blk_cell BK181.out 0).trans rfl
      have hcz31_1 : w19.cell? ⟨gb181, 1, none⟩ = some (.int .i64 t183) := (blk_cell BK181.out 1).trans rfl
      have hfz31_0 := blk_frozen BK181.out 0
      have hfz31_1 := blk_frozen BK181.out 1
      have hnb32 := NB185_175.out
      have hnc32 := NB175_185.out
      have hnb33 := NB185_176.out
      have hnc33 := NB176_185.out
      have hnb34 := NB185_177.out
      have hnc34 := NB177_185.out
      have hcz35_0 : w19.cell? ⟨gb185, 0, none⟩ = some (.int .u64 0) := (blk_cell BK185.out 0).trans rfl
      have hcz35_1 : w19.cell? ⟨gb185, 1, none⟩ = some (.string (⟨#[]⟩ : ByteArray)) := (blk_cell BK185.out 1).trans rfl
      have hfz35_0 := blk_frozen BK185.out 0
      have hfz35_1 := blk_frozen BK185.out 1
      go_wp2_with (first | (go_at_call 59; (with_reducible refine (tarnref08_May.calls t180 t184 t186 _ A26.out).mono ?_); rintro e w36 ⟨rfl, hb⟩; have n0_ := Aside0.mk (blk_below (g := gb175) (o := .cells #[.string a0_0, .int .i64 a0_1] 77 (0, 0)) (by (with_reducible repeat (first | refine blk_drewN ?_ _ | refine blk_drew ?_ | refine blk_alloc ?_ _)); refine blk_far ?_ NB175_185.out _; (with_reducible repeat (first | refine blk_drewN ?_ _ | refine blk_drew ?_ | refine blk_alloc ?_ _)); refine blk_far ?_ NB175_185.out _; (with_reducible repeat (first | refine blk_drewN ?_ _ | refine blk_drew ?_ | refine blk_alloc ?_ _)); exact BK175.out) hb); have n1_ := Aside0.mk (blk_below (g := gb176) (o := .cells #[.string (⟨#[]⟩ : ByteArray), .int .i64 0] 77 (0, 0)) (by (with_reducible repeat (first | refine blk_drewN ?_ _ | refine blk_drew ?_ | refine blk_alloc ?_ _)); refine blk_far ?_ NB176_185.out _; (with_reducible repeat (first | refine blk_drewN ?_ _ | refine blk_drew ?_ | refine blk_alloc ?_ _)); refine blk_far ?_ NB176_185.out _; (with_reducible repeat (first | refine blk_drewN ?_ _ | refine blk_drew ?_ | refine blk_alloc ?_ _)); exact BK176.out) hb); have n2_ := Aside0.mk (blk_below (g := gb177) (o := .cells #[.int .u64 0, .string (⟨#[]⟩ : ByteArray)] 28 (0, 0)) (by (with_reducible repeat (first | refine blk_drewN ?_ _ | refine blk_drew ?_ | refine blk_alloc ?_ _)); refine blk_far ?_ NB177_185.out _; (with_reducible repeat (first | refine blk_drewN ?_ _ | refine blk_drew ?_ | refine blk_alloc ?_ _)); refine blk_far ?_ NB177_185.out _; (with_reducible repeat (first | refine blk_drewN ?_ _ | refine blk_drew ?_ | refine blk_alloc ?_ _)); exact BK177.out) hb); have n3_ := Aside0.mk (blk_below (g := gb181) (o := .cells #[.string t182, .int .i64 t183] 77 (0, 0)) (by (with_reducible repeat (first | refine blk_drewN ?_ _ | refine blk_drew ?_ | refine blk_alloc ?_ _)); refine blk_far ?_ NB181_185.out _; (with_reducible repeat (first | refine blk_drewN ?_ _ | refine blk_drew ?_ | refine blk_alloc ?_ _)); refine blk_far ?_ NB181_185.out _; (with_reducible repeat (first | refine blk_drewN ?_ _ | refine blk_drew ?_ | refine blk_alloc ?_ _)); exact BK181.out) hb); have n4_ := Aside0.mk (blk_below (g := gb185) (o := .cells #[.int .u64 t180, .string t184] 28 (0, 0)) (by (with_reducible repeat (first | refine blk_drewN ?_ _ | refine blk_drew ?_ | refine blk_alloc ?_ _)); refine blk_put (cs := #[.int .u64 t180, .string (⟨#[]⟩ : ByteArray)]) ?_ 1 _ rfl; (with_reducible repeat (first | refine blk_drewN ?_ _ | refine blk_drew ?_ | refine blk_alloc ?_ _)); refine blk_put (cs := #[.int .u64 0, .string (⟨#[]⟩ : ByteArray)]) ?_ 0 _ rfl; (with_reducible repeat (first | refine blk_drewN ?_ _ | refine blk_drew ?_ | refine blk_alloc ?_ _)); exact BK185.out) hb); have n5_ := Aside0.mk (below_step (by repeat (first | (with_reducible first | exact HB.out | apply below_alloc | apply pw_below_drewN | apply below_drew1 | refine below_set ?_ GE175.out | refine below_set ?_ GE176.out | refine below_set ?_ GE177.out | refine below_set ?_ GE181.out | refine below_set ?_ GE185.out) | exact HB.out)) hb); clear BK175; clear BK176; clear BK177; clear BK181; clear BK185; clear HB; have BK175 := n0_; have BK176 := n1_; have BK177 := n2_; have BK181 := n3_; have BK185 := n4_; have HB := n5_; clear n0_ n1_ n2_ n3_ n4_ n5_; (try clear hb); (try clear hb2); (try clear hk); (try clear hi)))
      go_meet
      case rel => exact ⟨_, (!t186), (by first | rfl | (simp; done) | (simp [*]; done)), H', ⟨by first | omega | exact Nat.le_refl _⟩, ⟨by (with_reducible repeat (first | refine blk_drewN ?_ _ | refine blk_drew ?_ | refine blk_alloc ?_ _)); exact BK175.out⟩, ⟨by (with_reducible repeat (first | refine blk_drewN ?_ _ | refine blk_drew ?_ | refine blk_alloc ?_ _)); exact BK176.out⟩, ⟨by (with_reducible repeat (first | refine blk_drewN ?_ _ | refine blk_drew ?_ | refine blk_alloc ?_ _)); exact BK177.out⟩, ⟨by (with_reducible repeat (first | refine blk_drewN ?_ _ | refine blk_drew ?_ | refine blk_alloc ?_ _)); exact BK181.out⟩, ⟨by (with_reducible repeat (first | refine blk_drewN ?_ _ | refine blk_drew ?_ | refine blk_alloc ?_ _)); exact BK185.out⟩, ⟨by repeat (first | (with_reducible first | exact HB.out | apply below_alloc | apply pw_below_drewN | apply below_drew1 | refine below_set ?_ GE175.out | refine below_set ?_ GE176.out | refine below_set ?_ GE177.out | refine below_set ?_ GE181.out | refine below_set ?_ GE185.out) | exact HB.out)⟩⟩
    · rw [if_neg c25] at H
      have c25b0 : (t183 == 0) = false := beq_eq_false_iff_ne.mpr c25
      have c25b1 : (t183 != 0) = true := bne_iff_ne.mpr c25
      (first | rw [c25b0] | (simp only [i64_w, i32_w]; rw [c25b0]) | skip)
      have H' := Aside0.mk H
      clear H
      have hnb37 := NB181_175.out
      have hnc37 := NB175_181.out
      have hnb38 := NB181_176.out
      have hnc38 := NB176_181.out
      have hnb39 := NB181_177.out
      have hnc39 := NB177_181.out
      have hnb40 := NB181_185.out
      have hnc40 := NB185_181.out
      have hcz41_0 : w19.cell? ⟨gb181, 0, none⟩ = some (.string t182) := (blk_cell BK181.out 0).trans rfl
      have hcz41_1 : w19.cell? ⟨gb181, 1, none⟩ = some (.int .i64 t183) := (blk_cell BK181.out 1).trans rfl
      have hfz41_0 := blk_frozen BK181.out 0
      have hfz41_1 := blk_frozen BK181.out 1
      go_wp2
      go_meet
      case rel => exact ⟨_, (false), (by first | rfl | (simp; done) | (simp [*]; done)), H', ⟨by first | omega | exact Nat.le_refl _⟩, ⟨by (with_reducible repeat (first | refine blk_drewN ?_ _ | refine blk_drew ?_ | refine blk_alloc ?_ _)); refine blk_far ?_ NB175_185.out _; (with_reducible repeat (first | refine blk_drewN ?_ _ | refine blk_drew ?_ | refine blk_alloc ?_ _)); refine blk_far ?_ NB175_185.out _; (with_reducible repeat (first | refine blk_drewN ?_ _ | refine blk_drew ?_ | refine blk_alloc ?_ _)); exact BK175.out⟩, ⟨by (with_reducible repeat (first | refine blk_drewN ?_ _ | refine blk_drew ?_ | refine blk_alloc ?_ _)); refine blk_far ?_ NB176_185.out _; (with_reducible repeat (first | refine blk_drewN ?_ _ | refine blk_drew ?_ | refine blk_alloc ?_ _)); refine blk_far ?_ NB176_185.out _; (with_reducible repeat (first | refine blk_drewN ?_ _ | refine blk_drew ?_ | refine blk_alloc ?_ _)); exact BK176.out⟩, ⟨by (with_reducible repeat (first | refine blk_drewN ?_ _ | refine blk_drew ?_ | refine blk_alloc ?_ _)); refine blk_far ?_ NB177_185.out _; (with_reducible repeat (first | refine blk_drewN ?_ _ | refine blk_drew ?_ | refine blk_alloc ?_ _)); refine blk_far ?_ NB177_185.out _; (with_reducible repeat (first | refine blk_drewN ?_ _ | refine blk_drew ?_ | refine blk_alloc ?_ _)); exact BK177.out⟩, ⟨by (with_reducible repeat (first | refine blk_drewN ?_ _ | refine blk_drew ?_ | refine blk_alloc ?_ _)); refine blk_far ?_ NB181_185.out _; (with_reducible repeat (first | refine blk_drewN ?_ _ | refine blk_drew ?_ | refine blk_alloc ?_ _)); refine blk_far ?_ NB181_185.out _; (with_reducible repeat (first | refine blk_drewN ?_ _ | refine blk_drew ?_ | refine blk_alloc ?_ _)); exact BK181.out⟩, ⟨by (with_reducible repeat (first | refine blk_drewN ?_ _ | refine blk_drew ?_ | refine blk_alloc ?_ _)); refine blk_put (cs := #[.int .u64 t180, .string (⟨#[]⟩ : ByteArray)]) ?_ 1 _ rfl; (with_reducible repeat (first | refine blk_drewN ?_ _ | refine blk_drew ?_ | refine blk_alloc ?_ _)); refine blk_put (cs := #[.int .u64 0, .string (⟨#[]⟩ : ByteArray)]) ?_ 0 _ rfl; (with_reducible repeat (first | refine blk_drewN ?_ _ | refine blk_drew ?_ | refine blk_alloc ?_ _)); exact BK185.out⟩, ⟨by repeat (first | (with_reducible first | exact HB.out | apply below_alloc | apply pw_below_drewN | apply below_drew1 | refine below_set ?_ GE175.out | refine below_set ?_ GE176.out | refine below_set ?_ GE177.out | refine below_set ?_ GE181.out | refine below_set ?_ GE185.out) | exact HB.out)⟩⟩
  case rest =>
    clear HC4
    try clear c1
    try clear c2
    try clear p2
    try clear c3
    try clear c4
    try clear c7
    try clear c8
    try clear c9
    try clear c13
    try clear c14
    try clear c15
    try clear c20
    try clear c21
    try clear c22
    try clear c23
    try clear c25
    try clear c25b0
    try clear c25b1
    try clear c27
    try clear c28
    try clear c29
    try clear c30
    try clear c32
    try clear c33
    try clear c34
    try clear c37
    try clear c38
    try clear c39
    try clear c40
    try clear hcz10_0
    try clear hcz10_1
    try clear hcz16_0
    try clear hcz16_1
    try clear hcz18_0
    try clear hcz18_1
    try clear hcz24_0
    try clear hcz24_1
    try clear hcz31_0
    try clear hcz31_1
    try clear hcz35_0
    try clear hcz35_1
    try clear hcz41_0
    try clear hcz41_1
    try clear hfz10_0
    try clear hfz10_1
    try clear hfz16_0
    try clear hfz16_1
    try clear hfz18_0
    try clear hfz18_1
    try clear hfz24_0
    try clear hfz24_1
    try clear hfz31_0
    try clear hfz31_1
    try clear hfz35_0
    try clear hfz35_1
    try clear hfz41_0
    try clear hfz41_1
    obtain ⟨kq, x28_3, rfl, HA, HJ3, BK175, BK176, BK177, BK181, BK185, HB⟩ := hcut
    cases kq with
    | zero => exact absurd HA.out (by simp [tarnref08_Take.j0])
    | succ kj3 =>
      have H := HA.out
      clear HA
      simp only [tarnref08_Take.j0] at H
      by_cases c42 : x28_3 = true
      · subst c42
        have H1 : ((tarnref01_R_Fail.f t182 t183 3).bind fun bt187 => (if bt187.2 = 0 then (some (bt187.1, bt187.2, t180, t184)) else (some (bt187.1, bt187.2, 0, (⟨#[]⟩ : ByteArray))))) = some (r1, r2, r3, r4) := by rw [if_pos rfl] at H; exact H
        clear H
        have H := H1
        clear H1
        replace H := Option.bind_eq_some_iff.mp H
        obtain ⟨⟨t187, t188⟩, A430, H⟩ := H
        replace H : (if t188 = 0 then (some (t187, t188, t180, t184)) else (some (t187, t188, 0, (⟨#[]⟩ : ByteArray)))) = some (r1, r2, r3, r4) := H
        have A43 := Aside0.mk A430
        clear A430
        by_cases c44 : t188 = 0
        · rw [if_pos c44] at H
          have c44b0 : (t188 == 0) = true := beq_iff_eq.mpr c44
          have c44b1 : (t188 != 0) = false := bne_eq_false_iff_eq.mpr c44
          clear c44
          simp only [Option.some.injEq, Prod.mk.injEq] at H
          obtain ⟨rfl, rfl, rfl, rfl⟩ := H
          have hnb45 := NB181_175.out
          have hnc45 := NB175_181.out
          have hnb46 := NB181_176.out
          have hnc46 := NB176_181.out
          have hnb47 := NB181_177.out
          have hnc47 := NB177_181.out
          have hnb48 := NB181_185.out
          have hnc48 := NB185_181.out
          have hcz49_0 : wc.cell? ⟨gb181, 0, none⟩ = some (.string t182) := (blk_cell BK181.out 0).trans rfl
          have hcz49_1 : wc.cell? ⟨gb181, 1, none⟩ = some (.int .i64 t183) := (blk_cell BK181.out 1).trans rfl
          have hfz49_0 := blk_frozen BK181.out 0
          have hfz49_1 := blk_frozen BK181.out 1
          try go_wp2_with (first | ((with_reducible refine gate_callee (f := 75) rfl ?_); refine goesL_ (some 30) rfl rfl Try.func75 (by kernel_rfl) rfl #[.agg #[.string t182, .int .i64 t183], .int .i64 3] rfl (by (try simp only [List.map_toArray, List.map_cons, List.map_nil]); first | done | rfl | (simp only [List.length_drop, List.length_take]; rfl)) ?_; (with_reducible refine (tarnref01_R_Fail.calls t182 t183 3 t187 t188 _ A43.out).mono ?_); rintro e w50 ⟨rfl, hb⟩; refine ⟨_, rfl, ?_⟩; have n0_ := Aside0.mk (blk_below (g := gb175) (o := .cells #[.string a0_0, .int .i64 a0_1] 77 (0, 0)) (by (with_reducible repeat (first | refine blk_drewN ?_ _ | refine blk_drew ?_ | refine blk_alloc ?_ _)); exact BK175.out) hb); have n1_ := Aside0.mk (blk_below (g := gb176) (o := .cells #[.string (⟨#[]⟩ : ByteArray), .int .i64 0] 77 (0, 0)) (by (with_reducible repeat (first | refine blk_drewN ?_ _ | refine blk_drew ?_ | refine blk_alloc ?_ _)); exact BK176.out) hb); have n2_ := Aside0.mk (blk_below (g := gb177) (o := .cells #[.int .u64 0, .string (⟨#[]⟩ : ByteArray)] 28 (0, 0)) (by (with_reducible repeat (first | refine blk_drewN ?_ _ | refine blk_drew ?_ | refine blk_alloc ?_ _)); exact BK177.out) hb); have n3_ := Aside0.mk (blk_below (g := gb181) (o := .cells #[.string t182, .int .i64 t183] 77 (0, 0)) (by (with_reducible repeat (first | refine blk_drewN ?_ _ | refine blk_drew ?_ | refine blk_alloc ?_ _)); exact BK181.out) hb); have n4_ := Aside0.mk (blk_below (g := gb185) (o := .cells #[.int .u64 t180, .string t184] 28 (0, 0)) (by (with_reducible repeat (first | refine blk_drewN ?_ _ | refine blk_drew ?_ | refine blk_alloc ?_ _)); exact BK185.out) hb); have n5_ := Aside0.mk (below_step (by repeat (first | (with_reducible first | exact HB.out | apply below_alloc | apply pw_below_drewN | apply below_drew1 | refine below_set ?_ GE175.out | refine below_set ?_ GE176.out | refine below_set ?_ GE177.out | refine below_set ?_ GE181.out | refine below_set ?_ GE185.out) | exact HB.out)) hb); clear BK175; clear BK176; clear BK177; clear BK181; clear BK185; clear HB; have BK175 := n0_; have BK176 := n1_; have BK177 := n2_; have BK181 := n3_; have BK185 := n4_; have HB := n5_; clear n0_ n1_ n2_ n3_ n4_ n5_; (try clear hb); (try clear hb2); (try clear hk); (try clear hi); have hcz51_0 : w50.cell? ⟨gb181, 0, none⟩ = some (.string t182) := (blk_cell BK181.out 0).trans rfl; have hcz51_1 : w50.cell? ⟨gb181, 1, none⟩ = some (.int .i64 t183) := (blk_cell BK181.out 1).trans rfl; have hfz51_0 := blk_frozen BK181.out 0; have hfz51_1 := blk_frozen BK181.out 1))
          have n0_ : Aside0 (((w50.setCell ⟨gb181, 0, none⟩ (.string t187)).setCell ⟨gb181, 1, none⟩ (.int .i64 t188)).heap[gb175]? = some (.cells #[.string a0_0, .int .i64 a0_1] 77 (0, 0))) := ⟨by (with_reducible repeat (first | refine blk_drewN ?_ _ | refine blk_drew ?_ | refine blk_alloc ?_ _)); refine blk_far ?_ NB175_181.out _; (with_reducible repeat (first | refine blk_drewN ?_ _ | refine blk_drew ?_ | refine blk_alloc ?_ _)); refine blk_far ?_ NB175_181.out _; (with_reducible repeat (first | refine blk_drewN ?_ _ | refine blk_drew ?_ | refine blk_alloc ?_ _)); exact BK175.out⟩
          have n1_ : Aside0 (((w50.setCell ⟨gb181, 0, none⟩ (.string t187)).setCell ⟨gb181, 1, none⟩ (.int .i64 t188)).heap[gb176]? = some (.cells #[.string (⟨#[]⟩ : ByteArray), .int .i64 0] 77 (0, 0))) := ⟨by (with_reducible repeat (first | refine blk_drewN ?_ _ | refine blk_drew ?_ | refine blk_alloc ?_ _)); refine blk_far ?_ NB176_181.out _; (with_reducible repeat (first | refine blk_drewN ?_ _ | refine blk_drew ?_ | refine blk_alloc ?_ _)); refine blk_far ?_ NB176_181.out _; (with_reducible repeat (first | refine blk_drewN ?_ _ | refine blk_drew ?_ | refine blk_alloc ?_ _)); exact BK176.out⟩
          have n2_ : Aside0 (((w50.setCell ⟨gb181, 0, none⟩ (.string t187)).setCell ⟨gb181, 1, none⟩ (.int .i64 t188)).heap[gb177]? = some (.cells #[.int .u64 0, .string (⟨#[]⟩ : ByteArray)] 28 (0, 0))) := ⟨by (with_reducible repeat (first | refine blk_drewN ?_ _ | refine blk_drew ?_ | refine blk_alloc ?_ _)); refine blk_far ?_ NB177_181.out _; (with_reducible repeat (first | refine blk_drewN ?_ _ | refine blk_drew ?_ | refine blk_alloc ?_ _)); refine blk_far ?_ NB177_181.out _; (with_reducible repeat (first | refine blk_drewN ?_ _ | refine blk_drew ?_ | refine blk_alloc ?_ _)); exact BK177.out⟩
          have n3_ : Aside0 (((w50.setCell ⟨gb181, 0, none⟩ (.string t187)).setCell ⟨gb181, 1, none⟩ (.int .i64 t188)).heap[gb181]? = some (.cells #[.string t187, .int .i64 t188] 77 (0, 0))) := ⟨by (with_reducible repeat (first | refine blk_drewN ?_ _ | refine blk_drew ?_ | refine blk_alloc ?_ _)); refine blk_put (cs := #[.string t187, .int .i64 t183]) ?_ 1 _ rfl; (with_reducible repeat (first | refine blk_drewN ?_ _ | refine blk_drew ?_ | refine blk_alloc ?_ _)); refine blk_put (cs := #[.string t182, .int .i64 t183]) ?_ 0 _ rfl; (with_reducible repeat (first | refine blk_drewN ?_ _ | refine blk_drew ?_ | refine blk_alloc ?_ _)); exact BK181.out⟩
          have n4_ : Aside0 (((w50.setCell ⟨gb181, 0, none⟩ (.string t187)).setCell ⟨gb181, 1, none⟩ (.int .i64 t188)).heap[gb185]? = some (.cells #[.int .u64 t180, .string t184] 28 (0, 0))) := ⟨by (with_reducible repeat (first | refine blk_drewN ?_ _ | refine blk_drew ?_ | refine blk_alloc ?_ _)); refine blk_far ?_ NB185_181.out _; (with_reducible repeat (first | refine blk_drewN ?_ _ | refine blk_drew ?_ | refine blk_alloc ?_ _)); refine blk_far ?_ NB185_181.out _; (with_reducible repeat (first | refine blk_drewN ?_ _ | refine blk_drew ?_ | refine blk_alloc ?_ _)); exact BK185.out⟩
          have n5_ : Aside0 (Below w.heap.size w ((w50.setCell ⟨gb181, 0, none⟩ (.string t187)).setCell ⟨gb181, 1, none⟩ (.int .i64 t188))) := ⟨by repeat (first | (with_reducible first | exact HB.out | apply below_alloc | apply pw_below_drewN | apply below_drew1 | refine below_set ?_ GE175.out | refine below_set ?_ GE176.out | refine below_set ?_ GE177.out | refine below_set ?_ GE181.out | refine below_set ?_ GE185.out) | exact HB.out)⟩
          (try clear BK175)
          (try clear BK176)
          (try clear BK177)
          (try clear BK181)
          (try clear BK185)
          (try clear HB)
          generalize ((w50.setCell ⟨gb181, 0, none⟩ (.string t187)).setCell ⟨gb181, 1, none⟩ (.int .i64 t188)) = w52 at n0_ n1_ n2_ n3_ n4_ n5_ ⊢
          have BK175 := n0_
          have BK176 := n1_
          have BK177 := n2_
          have BK181 := n3_
          have BK185 := n4_
          have HB := n5_
          clear n0_ n1_ n2_ n3_ n4_ n5_
          have n0_ := Aside0.mk (blk_drew BK175.out)
          have n1_ := Aside0.mk (blk_drew BK176.out)
          have n2_ := Aside0.mk (blk_drew BK177.out)
          have n3_ := Aside0.mk (blk_drew BK181.out)
          have n4_ := Aside0.mk (blk_drew BK185.out)
          have n5_ := Aside0.mk (below_drew1 HB.out)
          clear BK175
          clear BK176
          clear BK177
          clear BK181
          clear BK185
          clear HB
          have BK175 := n0_
          have BK176 := n1_
          have BK177 := n2_
          have BK181 := n3_
          have BK185 := n4_
          have HB := n5_
          clear n0_ n1_ n2_ n3_ n4_ n5_
          refine start_ (n := 4) (S := fun w' => w'.cell? ⟨gb181, 0, none⟩ = some (.string t187) ∧ w'.cell? ⟨gb181, 1, none⟩ = some (.int .i64 t188) ∧ w'.cell? ⟨gb185, 0, none⟩ = some (.int .u64 t180) ∧ w'.cell? ⟨gb185, 1, none⟩ = some (.string t184)) (ds := []) #[false, false, false, false] (by kernel_rfl) rfl rfl ⟨(blk_cell BK181.out 0).trans rfl, (blk_cell BK181.out 1).trans rfl, (blk_cell BK185.out 0).trans rfl, (blk_cell BK185.out 1).trans rfl⟩ (fun hHeld => ?_)
          generalize w52.drew = w53 at BK175 BK176 BK177 BK181 BK185 HB hHeld ⊢
          refine take_ (i := 0) (N := some 36) (v := ?_) (a' := ?_) #[true, false, false, false] rfl rfl (by kernel_rfl) (fun _ _ _ h => h) (Or.inl ⟨by rfl, ?_⟩) hHeld ?_ ?_
          rotate_left
          · rintro w' ⟨s0, s1, s2, s3⟩
            go_simp
            with_reducible rfl
          rotate_left
          · simp only [Act.put, List.setIfInBounds_toArray, List.set_cons_zero, List.set_cons_succ, i64_w, i32_w]
            rfl
          refine take_ (i := 1) (N := some 37) (v := ?_) (a' := ?_) #[true, true, false, false] rfl rfl (by kernel_rfl) (fun _ _ _ h => h) (Or.inl ⟨by rfl, ?_⟩) hHeld ?_ ?_
          rotate_left
          · rintro w' ⟨s0, s1, s2, s3⟩
            go_simp
            with_reducible rfl
          rotate_left
          · simp only [Act.put, List.setIfInBounds_toArray, List.set_cons_zero, List.set_cons_succ, i64_w, i32_w]
            rfl
          refine one_ (i := 2) (N := none) #[true, true, true, false] rfl rfl (by kernel_rfl) (by decide) (fun K hK => ?_)
          have hs54 : w53.cell? ⟨gb176, 0, none⟩ = some (.string (⟨#[]⟩ : ByteArray)) := (blk_cell BK176.out 0).trans rfl
          have hfs54 := blk_frozen BK176.out 0
          have hns54_0 := NB175_176.out
          have hns54_2 := NB177_176.out
          have hns54_3 := NB181_176.out
          have hns54_4 := NB185_176.out
          have hms54_0 := NB176_175.out
          have hms54_2 := NB176_177.out
          have hms54_3 := NB176_181.out
          have hms54_4 := NB176_185.out
          have hs55 : w53.cell? ⟨gb176, 1, none⟩ = some (.int .i64 0) := (blk_cell BK176.out 1).trans rfl
          have hfs55 := blk_frozen BK176.out 1
          have hns55_0 := NB175_176.out
          have hns55_2 := NB177_176.out
          have hns55_3 := NB181_176.out
          have hns55_4 := NB185_176.out
          have hms55_0 := NB176_175.out
          have hms55_2 := NB176_177.out
          have hms55_3 := NB176_181.out
          have hms55_4 := NB176_185.out
          refine skip_ (w1 := ?_) (by rfl) rfl ?_ ?_
          rotate_left
          · go_simp
            rfl
          refine hK.out _ _ ⟨((cell_far (p := ⟨gb176, _, none⟩) NB181_176.out _).trans (((cell_far (p := ⟨gb176, _, none⟩) NB181_176.out _).trans (hHeld.1)))), ((cell_far (p := ⟨gb176, _, none⟩) NB181_176.out _).trans (((cell_far (p := ⟨gb176, _, none⟩) NB181_176.out _).trans (hHeld.2.1)))), ((cell_far (p := ⟨gb176, _, none⟩) NB185_176.out _).trans (((cell_far (p := ⟨gb176, _, none⟩) NB185_176.out _).trans (hHeld.2.2.1)))), ((cell_far (p := ⟨gb176, _, none⟩) NB185_176.out _).trans (((cell_far (p := ⟨gb176, _, none⟩) NB185_176.out _).trans (hHeld.2.2.2))))⟩ (fun hHeld => ?_)
          clear hK K
          refine one_ (i := 3) (N := none) #[true, true, true, true] rfl rfl (by kernel_rfl) (by decide) (fun K hK => ?_)
          have hs56 : w53.cell? ⟨gb177, 0, none⟩ = some (.int .u64 0) := (blk_cell BK177.out 0).trans rfl
          have hfs56 := blk_frozen BK177.out 0
          have hns56_0 := NB175_177.out
          have hns56_1 := NB176_177.out
          have hns56_3 := NB181_177.out
          have hns56_4 := NB185_177.out
          have hms56_0 := NB177_175.out
          have hms56_1 := NB177_176.out
          have hms56_3 := NB177_181.out
          have hms56_4 := NB177_185.out
          have hs57 : w53.cell? ⟨gb177, 1, none⟩ = some (.string (⟨#[]⟩ : ByteArray)) := (blk_cell BK177.out 1).trans rfl
          have hfs57 := blk_frozen BK177.out 1
          have hns57_0 := NB175_177.out
          have hns57_1 := NB176_177.out
          have hns57_3 := NB181_177.out
          have hns57_4 := NB185_177.out
          have hms57_0 := NB177_175.out
          have hms57_1 := NB177_176.out
          have hms57_3 := NB177_181.out
          have hms57_4 := NB177_185.out
          refine skip_ (w1 := ?_) (by rfl) rfl ?_ ?_
          rotate_left
          · go_simp
            rfl
          refine hK.out _ _ ⟨((cell_far (p := ⟨gb177, _, none⟩) NB181_177.out _).trans (((cell_far (p := ⟨gb177, _, none⟩) NB181_177.out _).trans (hHeld.1)))), ((cell_far (p := ⟨gb177, _, none⟩) NB181_177.out _).trans (((cell_far (p := ⟨gb177, _, none⟩) NB181_177.out _).trans (hHeld.2.1)))), ((cell_far (p := ⟨gb177, _, none⟩) NB185_177.out _).trans (((cell_far (p := ⟨gb177, _, none⟩) NB185_177.out _).trans (hHeld.2.2.1)))), ((cell_far (p := ⟨gb177, _, none⟩) NB185_177.out _).trans (((cell_far (p := ⟨gb177, _, none⟩) NB185_177.out _).trans (hHeld.2.2.2))))⟩ (fun hHeld => ?_)
          clear hK K
          refine done_ (by kernel_rfl) ?_
          try go_wp2
          refine bodyPost_ret (results_cc rfl _ _ gb176 gb177 77 28 #[.string t187, .int .i64 t188] #[.int .u64 t180, .string t184] (0, 0) (0, 0) _ _ rfl (by (with_reducible repeat (first | refine blk_drewN ?_ _ | refine blk_drew ?_ | refine blk_alloc ?_ _)); refine blk_far ?_ NB176_177.out _; (with_reducible repeat (first | refine blk_drewN ?_ _ | refine blk_drew ?_ | refine blk_alloc ?_ _)); refine blk_far ?_ NB176_177.out _; (with_reducible repeat (first | refine blk_drewN ?_ _ | refine blk_drew ?_ | refine blk_alloc ?_ _)); refine blk_put (cs := #[.string t187, .int .i64 0]) ?_ 1 _ rfl; (with_reducible repeat (first | refine blk_drewN ?_ _ | refine blk_drew ?_ | refine blk_alloc ?_ _)); refine blk_put (cs := #[.string (⟨#[]⟩ : ByteArray), .int .i64 0]) ?_ 0 _ rfl; (with_reducible repeat (first | refine blk_drewN ?_ _ | refine blk_drew ?_ | refine blk_alloc ?_ _)); exact BK176.out) Try.underlying77 rfl (by kernel_rfl) rfl (by (with_reducible repeat (first | refine blk_drewN ?_ _ | refine blk_drew ?_ | refine blk_alloc ?_ _)); refine blk_put (cs := #[.int .u64 t180, .string (⟨#[]⟩ : ByteArray)]) ?_ 1 _ rfl; (with_reducible repeat (first | refine blk_drewN ?_ _ | refine blk_drew ?_ | refine blk_alloc ?_ _)); refine blk_put (cs := #[.int .u64 0, .string (⟨#[]⟩ : ByteArray)]) ?_ 0 _ rfl; (with_reducible repeat (first | refine blk_drewN ?_ _ | refine blk_drew ?_ | refine blk_alloc ?_ _)); refine blk_far ?_ NB177_176.out _; (with_reducible repeat (first | refine blk_drewN ?_ _ | refine blk_drew ?_ | refine blk_alloc ?_ _)); refine blk_far ?_ NB177_176.out _; (with_reducible repeat (first | refine blk_drewN ?_ _ | refine blk_drew ?_ | refine blk_alloc ?_ _)); exact BK177.out) Try.underlying28 rfl (by kernel_rfl)) rfl ?_
          exact ⟨by first | rfl | (simp [errW_none, errW_some] <;> rfl) | (simp [*, errW_none, errW_some] <;> rfl), by repeat (first | (with_reducible first | exact HB.out | apply below_alloc | apply pw_below_drewN | apply below_drew1 | refine below_set ?_ GE175.out | refine below_set ?_ GE176.out | refine below_set ?_ GE177.out | refine below_set ?_ GE181.out | refine below_set ?_ GE185.out) | exact HB.out)⟩
        · rw [if_neg c44] at H
          have c44b0 : (t188 == 0) = false := beq_eq_false_iff_ne.mpr c44
          have c44b1 : (t188 != 0) = true := bne_iff_ne.mpr c44
          simp only [Option.some.injEq, Prod.mk.injEq] at H
          obtain ⟨rfl, rfl, rfl, rfl⟩ := H
          have hnb58 := NB181_175.out
          have hnc58 := NB175_181.out
          have hnb59 := NB181_176.out
          have hnc59 := NB176_181.out
          have hnb60 := NB181_177.out
          have hnc60 := NB177_181.out
          have hnb61 := NB181_185.out
          have hnc61 := NB185_181.out
          have hcz62_0 : wc.cell? ⟨gb181, 0, none⟩ = some (.string t182) := (blk_cell BK181.out 0).trans rfl
          have hcz62_1 : wc.cell? ⟨gb181, 1, none⟩ = some (.int .i64 t183) := (blk_cell BK181.out 1).trans rfl
          have hfz62_0 := blk_frozen BK181.out 0
          have hfz62_1 := blk_frozen BK181.out 1
          go_wp2_with (first | ((with_reducible refine gate_callee (f := 75) rfl ?_); refine goesL_ (some 30) rfl rfl Try.func75 (by kernel_rfl) rfl #[.agg #[.string t182, .int .i64 t183], .int .i64 3] rfl (by (try simp only [List.map_toArray, List.map_cons, List.map_nil]); first | done | rfl | (simp only [List.length_drop, List.length_take]; rfl)) ?_; (with_reducible refine (tarnref01_R_Fail.calls t182 t183 3 t187 t188 _ A43.out).mono ?_); rintro e w63 ⟨rfl, hb⟩; refine ⟨_, rfl, ?_⟩; have n0_ := Aside0.mk (blk_below (g := gb175) (o := .cells #[.string a0_0, .int .i64 a0_1] 77 (0, 0)) (by (with_reducible repeat (first | refine blk_drewN ?_ _ | refine blk_drew ?_ | refine blk_alloc ?_ _)); exact BK175.out) hb); have n1_ := Aside0.mk (blk_below (g := gb176) (o := .cells #[.string (⟨#[]⟩ : ByteArray), .int .i64 0] 77 (0, 0)) (by (with_reducible repeat (first | refine blk_drewN ?_ _ | refine blk_drew ?_ | refine blk_alloc ?_ _)); exact BK176.out) hb); have n2_ := Aside0.mk (blk_below (g := gb177) (o := .cells #[.int .u64 0, .string (⟨#[]⟩ : ByteArray)] 28 (0, 0)) (by (with_reducible repeat (first | refine blk_drewN ?_ _ | refine blk_drew ?_ | refine blk_alloc ?_ _)); exact BK177.out) hb); have n3_ := Aside0.mk (blk_below (g := gb181) (o := .cells #[.string t182, .int .i64 t183] 77 (0, 0)) (by (with_reducible repeat (first | refine blk_drewN ?_ _ | refine blk_drew ?_ | refine blk_alloc ?_ _)); exact BK181.out) hb); have n4_ := Aside0.mk (blk_below (g := gb185) (o := .cells #[.int .u64 t180, .string t184] 28 (0, 0)) (by (with_reducible repeat (first | refine blk_drewN ?_ _ | refine blk_drew ?_ | refine blk_alloc ?_ _)); exact BK185.out) hb); have n5_ := Aside0.mk (below_step (by repeat (first | (with_reducible first | exact HB.out | apply below_alloc | apply pw_below_drewN | apply below_drew1 | refine below_set ?_ GE175.out | refine below_set ?_ GE176.out | refine below_set ?_ GE177.out | refine below_set ?_ GE181.out | refine below_set ?_ GE185.out) | exact HB.out)) hb); clear BK175; clear BK176; clear BK177; clear BK181; clear BK185; clear HB; have BK175 := n0_; have BK176 := n1_; have BK177 := n2_; have BK181 := n3_; have BK185 := n4_; have HB := n5_; clear n0_ n1_ n2_ n3_ n4_ n5_; (try clear hb); (try clear hb2); (try clear hk); (try clear hi); have hcz64_0 : w63.cell? ⟨gb181, 0, none⟩ = some (.string t182) := (blk_cell BK181.out 0).trans rfl; have hcz64_1 : w63.cell? ⟨gb181, 1, none⟩ = some (.int .i64 t183) := (blk_cell BK181.out 1).trans rfl; have hfz64_0 := blk_frozen BK181.out 0; have hfz64_1 := blk_frozen BK181.out 1; have hnb65 := NB176_175.out; have hnc65 := NB175_176.out; have hnb66 := NB176_177.out; have hnc66 := NB177_176.out; have hnb67 := NB176_185.out; have hnc67 := NB185_176.out; have hcz68_0 : w63.cell? ⟨gb176, 0, none⟩ = some (.string (⟨#[]⟩ : ByteArray)) := (blk_cell BK176.out 0).trans rfl; have hcz68_1 : w63.cell? ⟨gb176, 1, none⟩ = some (.int .i64 0) := (blk_cell BK176.out 1).trans rfl; have hfz68_0 := blk_frozen BK176.out 0; have hfz68_1 := blk_frozen BK176.out 1; have hnb69 := NB177_175.out; have hnc69 := NB175_177.out; have hnb70 := NB177_185.out; have hnc70 := NB185_177.out; have hcz71_0 : w63.cell? ⟨gb177, 0, none⟩ = some (.int .u64 0) := (blk_cell BK177.out 0).trans rfl; have hcz71_1 : w63.cell? ⟨gb177, 1, none⟩ = some (.string (⟨#[]⟩ : ByteArray)) := (blk_cell BK177.out 1).trans rfl; have hfz71_0 := blk_frozen BK177.out 0; have hfz71_1 := blk_frozen BK177.out 1))
          refine bodyPost_ret (results_cc rfl _ _ gb176 gb177 77 28 #[.string t187, .int .i64 t188] #[.int .u64 0, .string (⟨#[]⟩ : ByteArray)] (0, 0) (0, 0) _ _ rfl (by (with_reducible repeat (first | refine blk_drewN ?_ _ | refine blk_drew ?_ | refine blk_alloc ?_ _)); refine blk_far ?_ NB176_177.out _; (with_reducible repeat (first | refine blk_drewN ?_ _ | refine blk_drew ?_ | refine blk_alloc ?_ _)); refine blk_far ?_ NB176_177.out _; (with_reducible repeat (first | refine blk_drewN ?_ _ | refine blk_drew ?_ | refine blk_alloc ?_ _)); refine blk_put (cs := #[.string t187, .int .i64 0]) ?_ 1 _ rfl; (with_reducible repeat (first | refine blk_drewN ?_ _ | refine blk_drew ?_ | refine blk_alloc ?_ _)); refine blk_put (cs := #[.string (⟨#[]⟩ : ByteArray), .int .i64 0]) ?_ 0 _ rfl; (with_reducible repeat (first | refine blk_drewN ?_ _ | refine blk_drew ?_ | refine blk_alloc ?_ _)); refine blk_far ?_ NB176_181.out _; (with_reducible repeat (first | refine blk_drewN ?_ _ | refine blk_drew ?_ | refine blk_alloc ?_ _)); refine blk_far ?_ NB176_181.out _; (with_reducible repeat (first | refine blk_drewN ?_ _ | refine blk_drew ?_ | refine blk_alloc ?_ _)); exact BK176.out) Try.underlying77 rfl (by kernel_rfl) rfl (by (with_reducible repeat (first | refine blk_drewN ?_ _ | refine blk_drew ?_ | refine blk_alloc ?_ _)); refine blk_put (cs := #[.int .u64 0, .string (⟨#[]⟩ : ByteArray)]) ?_ 1 _ rfl; (with_reducible repeat (first | refine blk_drewN ?_ _ | refine blk_drew ?_ | refine blk_alloc ?_ _)); refine blk_put (cs := #[.int .u64 0, .string (⟨#[]⟩ : ByteArray)]) ?_ 0 _ rfl; (with_reducible repeat (first | refine blk_drewN ?_ _ | refine blk_drew ?_ | refine blk_alloc ?_ _)); refine blk_far ?_ NB177_176.out _; (with_reducible repeat (first | refine blk_drewN ?_ _ | refine blk_drew ?_ | refine blk_alloc ?_ _)); refine blk_far ?_ NB177_176.out _; (with_reducible repeat (first | refine blk_drewN ?_ _ | refine blk_drew ?_ | refine blk_alloc ?_ _)); refine blk_far ?_ NB177_181.out _; (with_reducible repeat (first | refine blk_drewN ?_ _ | refine blk_drew ?_ | refine blk_alloc ?_ _)); refine blk_far ?_ NB177_181.out _; (with_reducible repeat (first | refine blk_drewN ?_ _ | refine blk_drew ?_ | refine blk_alloc ?_ _)); exact BK177.out) Try.underlying28 rfl (by kernel_rfl)) rfl ?_
          exact ⟨by first | rfl | (simp [errW_none, errW_some] <;> rfl) | (simp [*, errW_none, errW_some] <;> rfl), by repeat (first | (with_reducible first | exact HB.out | apply below_alloc | apply pw_below_drewN | apply below_drew1 | refine below_set ?_ GE175.out | refine below_set ?_ GE176.out | refine below_set ?_ GE177.out | refine below_set ?_ GE181.out | refine below_set ?_ GE185.out) | exact HB.out)⟩
      · replace c42 := Bool.eq_false_iff.mpr c42
        subst c42
        have H1 : (if t183 = 0 then (some (t182, t183, t180, t184)) else (some (t182, t183, 0, (⟨#[]⟩ : ByteArray)))) = some (r1, r2, r3, r4) := by rw [if_neg (show ¬ (false = true) by decide)] at H; exact H
        clear H
        have H := H1
        clear H1
        by_cases c72 : t183 = 0
        · rw [if_pos c72] at H
          have c72b0 : (t183 == 0) = true := beq_iff_eq.mpr c72
          have c72b1 : (t183 != 0) = false := bne_eq_false_iff_eq.mpr c72
          clear c72
          simp only [Option.some.injEq, Prod.mk.injEq] at H
          obtain ⟨rfl, rfl, rfl, rfl⟩ := H
          have hnb73 := NB181_175.out
          have hnc73 := NB175_181.out
          have hnb74 := NB181_176.out
          have hnc74 := NB176_181.out
          have hnb75 := NB181_177.out
          have hnc75 := NB177_181.out
          have hnb76 := NB181_185.out
          have hnc76 := NB185_181.out
          have hcz77_0 : wc.cell? ⟨gb181, 0, none⟩ = some (.string t182) := (blk_cell BK181.out 0).trans rfl
          have hcz77_1 : wc.cell? ⟨gb181, 1, none⟩ = some (.int .i64 t183) := (blk_cell BK181.out 1).trans rfl
          have hfz77_0 := blk_frozen BK181.out 0
          have hfz77_1 := blk_frozen BK181.out 1
          try go_wp2
          have n0_ := Aside0.mk (blk_drew BK175.out)
          have n1_ := Aside0.mk (blk_drew BK176.out)
          have n2_ := Aside0.mk (blk_drew BK177.out)
          have n3_ := Aside0.mk (blk_drew BK181.out)
          have n4_ := Aside0.mk (blk_drew BK185.out)
          have n5_ := Aside0.mk (below_drew1 HB.out)
          clear BK175
          clear BK176
          clear BK177
          clear BK181
          clear BK185
          clear HB
          have BK175 := n0_
          have BK176 := n1_
          have BK177 := n2_
          have BK181 := n3_
          have BK185 := n4_
          have HB := n5_
          clear n0_ n1_ n2_ n3_ n4_ n5_
          refine start_ (n := 4) (S := fun w' => w'.cell? ⟨gb181, 0, none⟩ = some (.string t182) ∧ w'.cell? ⟨gb181, 1, none⟩ = some (.int .i64 t183) ∧ w'.cell? ⟨gb185, 0, none⟩ = some (.int .u64 t180) ∧ w'.cell? ⟨gb185, 1, none⟩ = some (.string t184)) (ds := []) #[false, false, false, false] (by kernel_rfl) rfl rfl ⟨(blk_cell BK181.out 0).trans rfl, (blk_cell BK181.out 1).trans rfl, (blk_cell BK185.out 0).trans rfl, (blk_cell BK185.out 1).trans rfl⟩ (fun hHeld => ?_)
          generalize wc.drew = w78 at BK175 BK176 BK177 BK181 BK185 HB hHeld ⊢
          refine take_ (i := 0) (N := some 36) (v := ?_) (a' := ?_) #[true, false, false, false] rfl rfl (by kernel_rfl) (fun _ _ _ h => h) (Or.inl ⟨by rfl, ?_⟩) hHeld ?_ ?_
          rotate_left
          · rintro w' ⟨s0, s1, s2, s3⟩
            go_simp
            with_reducible rfl
          rotate_left
          · simp only [Act.put, List.setIfInBounds_toArray, List.set_cons_zero, List.set_cons_succ, i64_w, i32_w]
            rfl
          refine take_ (i := 1) (N := some 37) (v := ?_) (a' := ?_) #[true, true, false, false] rfl rfl (by kernel_rfl) (fun _ _ _ h => h) (Or.inl ⟨by rfl, ?_⟩) hHeld ?_ ?_
          rotate_left
          · rintro w' ⟨s0, s1, s2, s3⟩
            go_simp
            with_reducible rfl
          rotate_left
          · simp only [Act.put, List.setIfInBounds_toArray, List.set_cons_zero, List.set_cons_succ, i64_w, i32_w]
            rfl
          refine one_ (i := 2) (N := none) #[true, true, true, false] rfl rfl (by kernel_rfl) (by decide) (fun K hK => ?_)
          have hs79 : w78.cell? ⟨gb176, 0, none⟩ = some (.string (⟨#[]⟩ : ByteArray)) := (blk_cell BK176.out 0).trans rfl
          have hfs79 := blk_frozen BK176.out 0
          have hns79_0 := NB175_176.out
          have hns79_2 := NB177_176.out
          have hns79_3 := NB181_176.out
          have hns79_4 := NB185_176.out
          have hms79_0 := NB176_175.out
          have hms79_2 := NB176_177.out
          have hms79_3 := NB176_181.out
          have hms79_4 := NB176_185.out
          have hs80 : w78.cell? ⟨gb176, 1, none⟩ = some (.int .i64 0) := (blk_cell BK176.out 1).trans rfl
          have hfs80 := blk_frozen BK176.out 1
          have hns80_0 := NB175_176.out
          have hns80_2 := NB177_176.out
          have hns80_3 := NB181_176.out
          have hns80_4 := NB185_176.out
          have hms80_0 := NB176_175.out
          have hms80_2 := NB176_177.out
          have hms80_3 := NB176_181.out
          have hms80_4 := NB176_185.out
          refine skip_ (w1 := ?_) (by rfl) rfl ?_ ?_
          rotate_left
          · go_simp
            rfl
          refine hK.out _ _ ⟨((cell_far (p := ⟨gb176, _, none⟩) NB181_176.out _).trans (((cell_far (p := ⟨gb176, _, none⟩) NB181_176.out _).trans (hHeld.1)))), ((cell_far (p := ⟨gb176, _, none⟩) NB181_176.out _).trans (((cell_far (p := ⟨gb176, _, none⟩) NB181_176.out _).trans (hHeld.2.1)))), ((cell_far (p := ⟨gb176, _, none⟩) NB185_176.out _).trans (((cell_far (p := ⟨gb176, _, none⟩) NB185_176.out _).trans (hHeld.2.2.1)))), ((cell_far (p := ⟨gb176, _, none⟩) NB185_176.out _).trans (((cell_far (p := ⟨gb176, _, none⟩) NB185_176.out _).trans (hHeld.2.2.2))))⟩ (fun hHeld => ?_)
          clear hK K
          refine one_ (i := 3) (N := none) #[true, true, true, true] rfl rfl (by kernel_rfl) (by decide) (fun K hK => ?_)
          have hs81 : w78.cell? ⟨gb177, 0, none⟩ = some (.int .u64 0) := (blk_cell BK177.out 0).trans rfl
          have hfs81 := blk_frozen BK177.out 0
          have hns81_0 := NB175_177.out
          have hns81_1 := NB176_177.out
          have hns81_3 := NB181_177.out
          have hns81_4 := NB185_177.out
          have hms81_0 := NB177_175.out
          have hms81_1 := NB177_176.out
          have hms81_3 := NB177_181.out
          have hms81_4 := NB177_185.out
          have hs82 : w78.cell? ⟨gb177, 1, none⟩ = some (.string (⟨#[]⟩ : ByteArray)) := (blk_cell BK177.out 1).trans rfl
          have hfs82 := blk_frozen BK177.out 1
          have hns82_0 := NB175_177.out
          have hns82_1 := NB176_177.out
          have hns82_3 := NB181_177.out
          have hns82_4 := NB185_177.out
          have hms82_0 := NB177_175.out
          have hms82_1 := NB177_176.out
          have hms82_3 := NB177_181.out
          have hms82_4 := NB177_185.out
          refine skip_ (w1 := ?_) (by rfl) rfl ?_ ?_
          rotate_left
          · go_simp
            rfl
          refine hK.out _ _ ⟨((cell_far (p := ⟨gb177, _, none⟩) NB181_177.out _).trans (((cell_far (p := ⟨gb177, _, none⟩) NB181_177.out _).trans (hHeld.1)))), ((cell_far (p := ⟨gb177, _, none⟩) NB181_177.out _).trans (((cell_far (p := ⟨gb177, _, none⟩) NB181_177.out _).trans (hHeld.2.1)))), ((cell_far (p := ⟨gb177, _, none⟩) NB185_177.out _).trans (((cell_far (p := ⟨gb177, _, none⟩) NB185_177.out _).trans (hHeld.2.2.1)))), ((cell_far (p := ⟨gb177, _, none⟩) NB185_177.out _).trans (((cell_far (p := ⟨gb177, _, none⟩) NB185_177.out _).trans (hHeld.2.2.2))))⟩ (fun hHeld => ?_)
          clear hK K
          refine done_ (by kernel_rfl) ?_
          try go_wp2
          refine bodyPost_ret (results_cc rfl _ _ gb176 gb177 77 28 #[.string t182, .int .i64 t183] #[.int .u64 t180, .string t184] (0, 0) (0, 0) _ _ rfl (by (with_reducible repeat (first | refine blk_drewN ?_ _ | refine blk_drew ?_ | refine blk_alloc ?_ _)); refine blk_far ?_ NB176_177.out _; (with_reducible repeat (first | refine blk_drewN ?_ _ | refine blk_drew ?_ | refine blk_alloc ?_ _)); refine blk_far ?_ NB176_177.out _; (with_reducible repeat (first | refine blk_drewN ?_ _ | refine blk_drew ?_ | refine blk_alloc ?_ _)); refine blk_put (cs := #[.string t182, .int .i64 0]) ?_ 1 _ rfl; (with_reducible repeat (first | refine blk_drewN ?_ _ | refine blk_drew ?_ | refine blk_alloc ?_ _)); refine blk_put (cs := #[.string (⟨#[]⟩ : ByteArray), .int .i64 0]) ?_ 0 _ rfl; (with_reducible repeat (first | refine blk_drewN ?_ _ | refine blk_drew ?_ | refine blk_alloc ?_ _)); exact BK176.out) Try.underlying77 rfl (by kernel_rfl) rfl (by (with_reducible repeat (first | refine blk_drewN ?_ _ | refine blk_drew ?_ | refine blk_alloc ?_ _)); refine blk_put (cs := #[.int .u64 t180, .string (⟨#[]⟩ : ByteArray)]) ?_ 1 _ rfl; (with_reducible repeat (first | refine blk_drewN ?_ _ | refine blk_drew ?_ | refine blk_alloc ?_ _)); refine blk_put (cs := #[.int .u64 0, .string (⟨#[]⟩ : ByteArray)]) ?_ 0 _ rfl; (with_reducible repeat (first | refine blk_drewN ?_ _ | refine blk_drew ?_ | refine blk_alloc ?_ _)); refine blk_far ?_ NB177_176.out _; (with_reducible repeat (first | refine blk_drewN ?_ _ | refine blk_drew ?_ | refine blk_alloc ?_ _)); refine blk_far ?_ NB177_176.out _; (with_reducible repeat (first | refine blk_drewN ?_ _ | refine blk_drew ?_ | refine blk_alloc ?_ _)); exact BK177.out) Try.underlying28 rfl (by kernel_rfl)) rfl ?_
          exact ⟨by first | rfl | (simp [errW_none, errW_some] <;> rfl) | (simp [*, errW_none, errW_some] <;> rfl), by repeat (first | (with_reducible first | exact HB.out | apply below_alloc | apply pw_below_drewN | apply below_drew1 | refine below_set ?_ GE175.out | refine below_set ?_ GE176.out | refine below_set ?_ GE177.out | refine below_set ?_ GE181.out | refine below_set ?_ GE185.out) | exact HB.out)⟩
        · rw [if_neg c72] at H
          have c72b0 : (t183 == 0) = false := beq_eq_false_iff_ne.mpr c72
          have c72b1 : (t183 != 0) = true := bne_iff_ne.mpr c72
          simp only [Option.some.injEq, Prod.mk.injEq] at H
          obtain ⟨rfl, rfl, rfl, rfl⟩ := H
          have hnb83 := NB181_175.out
          have hnc83 := NB175_181.out
          have hnb84 := NB181_176.out
          have hnc84 := NB176_181.out
          have hnb85 := NB181_177.out
          have hnc85 := NB177_181.out
          have hnb86 := NB181_185.out
          have hnc86 := NB185_181.out
          have hcz87_0 : wc.cell? ⟨gb181, 0, none⟩ = some (.string t182) := (blk_cell BK181.out 0).trans rfl
          have hcz87_1 : wc.cell? ⟨gb181, 1, none⟩ = some (.int .i64 t183) := (blk_cell BK181.out 1).trans rfl
          have hfz87_0 := blk_frozen BK181.out 0
          have hfz87_1 := blk_frozen BK181.out 1
          have hnb88 := NB176_175.out
          have hnc88 := NB175_176.out
          have hnb89 := NB176_177.out
          have hnc89 := NB177_176.out
          have hnb90 := NB176_185.out
          have hnc90 := NB185_176.out
          have hcz91_0 : wc.cell? ⟨gb176, 0, none⟩ = some (.string (⟨#[]⟩ : ByteArray)) := (blk_cell BK176.out 0).trans rfl
          have hcz91_1 : wc.cell? ⟨gb176, 1, none⟩ = some (.int .i64 0) := (blk_cell BK176.out 1).trans rfl
          have hfz91_0 := blk_frozen BK176.out 0
          have hfz91_1 := blk_frozen BK176.out 1
          have hnb92 := NB177_175.out
          have hnc92 := NB175_177.out
          have hnb93 := NB177_185.out
          have hnc93 := NB185_177.out
          have hcz94_0 : wc.cell? ⟨gb177, 0, none⟩ = some (.int .u64 0) := (blk_cell BK177.out 0).trans rfl
          have hcz94_1 : wc.cell? ⟨gb177, 1, none⟩ = some (.string (⟨#[]⟩ : ByteArray)) := (blk_cell BK177.out 1).trans rfl
          have hfz94_0 := blk_frozen BK177.out 0
          have hfz94_1 := blk_frozen BK177.out 1
          go_wp2
          refine bodyPost_ret (results_cc rfl _ _ gb176 gb177 77 28 #[.string t182, .int .i64 t183] #[.int .u64 0, .string (⟨#[]⟩ : ByteArray)] (0, 0) (0, 0) _ _ rfl (by (with_reducible repeat (first | refine blk_drewN ?_ _ | refine blk_drew ?_ | refine blk_alloc ?_ _)); refine blk_far ?_ NB176_177.out _; (with_reducible repeat (first | refine blk_drewN ?_ _ | refine blk_drew ?_ | refine blk_alloc ?_ _)); refine blk_far ?_ NB176_177.out _; (with_reducible repeat (first | refine blk_drewN ?_ _ | refine blk_drew ?_ | refine blk_alloc ?_ _)); refine blk_put (cs := #[.string t182, .int .i64 0]) ?_ 1 _ rfl; (with_reducible repeat (first | refine blk_drewN ?_ _ | refine blk_drew ?_ | refine blk_alloc ?_ _)); refine blk_put (cs := #[.string (⟨#[]⟩ : ByteArray), .int .i64 0]) ?_ 0 _ rfl; (with_reducible repeat (first | refine blk_drewN ?_ _ | refine blk_drew ?_ | refine blk_alloc ?_ _)); exact BK176.out) Try.underlying77 rfl (by kernel_rfl) rfl (by (with_reducible repeat (first | refine blk_drewN ?_ _ | refine blk_drew ?_ | refine blk_alloc ?_ _)); refine blk_put (cs := #[.int .u64 0, .string (⟨#[]⟩ : ByteArray)]) ?_ 1 _ rfl; (with_reducible repeat (first | refine blk_drewN ?_ _ | refine blk_drew ?_ | refine blk_alloc ?_ _)); refine blk_put (cs := #[.int .u64 0, .string (⟨#[]⟩ : ByteArray)]) ?_ 0 _ rfl; (with_reducible repeat (first | refine blk_drewN ?_ _ | refine blk_drew ?_ | refine blk_alloc ?_ _)); refine blk_far ?_ NB177_176.out _; (with_reducible repeat (first | refine blk_drewN ?_ _ | refine blk_drew ?_ | refine blk_alloc ?_ _)); refine blk_far ?_ NB177_176.out _; (with_reducible repeat (first | refine blk_drewN ?_ _ | refine blk_drew ?_ | refine blk_alloc ?_ _)); exact BK177.out) Try.underlying28 rfl (by kernel_rfl)) rfl ?_
          exact ⟨by first | rfl | (simp [errW_none, errW_some] <;> rfl) | (simp [*, errW_none, errW_some] <;> rfl), by repeat (first | (with_reducible first | exact HB.out | apply below_alloc | apply pw_below_drewN | apply below_drew1 | refine below_set ?_ GE175.out | refine below_set ?_ GE176.out | refine below_set ?_ GE177.out | refine below_set ?_ GE181.out | refine below_set ?_ GE185.out) | exact HB.out)⟩
end Go.Proofs.Ytjohfkpgghnpeaa.PRef
end
section
namespace Go.Proofs.Ytjohfkpgghnpeaa.PRef
open Go.RowKit Go.Proofs.YtjohfkpgghnpeaaW.PrintWords Go.Proofs.YtjohfkpgghnpeaaW.PrintLast Go.Proofs.YtjohfkpgghnpeaaW.PrintMore
attribute [local go_sem] max2_int min2_int max_two min_two
open Go.Proofs.Ytjohfkpgghnpeaa.Gv Go.Proofs.Ytjohfkpgghnpeaa.PNum
set_option linter.unusedVariables false
set_option linter.unusedSimpArgs false
end Go.Proofs.Ytjohfkpgghnpeaa.PRef
end
section
namespace Go.Proofs.Ytjohfkpgghnpeaa.PRef
open Go.RowKit Go.Proofs.YtjohfkpgghnpeaaW.PrintWords Go.Proofs.YtjohfkpgghnpeaaW.PrintLast Go.Proofs.YtjohfkpgghnpeaaW.PrintMore
attribute [local go_sem] max2_int min2_int max_two min_two
open Go.Proofs.Ytjohfkpgghnpeaa.Gv Go.Proofs.Ytjohfkpgghnpeaa.PNum
set_option linter.unusedVariables false
set_option linter.unusedSimpArgs false
def item_Newer.f (a0_0 : Int) (a0_1 : ByteArray) (a1_0 : Int) (a1_1 : ByteArray) : Option (Bool) := some (decide (a0_0 > a1_0))
end Go.Proofs.Ytjohfkpgghnpeaa.PRef
end
section
namespace Go.Proofs.Ytjohfkpgghnpeaa.PRef
open Go.RowKit Go.Proofs.YtjohfkpgghnpeaaW.PrintWords Go.Proofs.YtjohfkpgghnpeaaW.PrintLast Go.Proofs.YtjohfkpgghnpeaaW.PrintMore
attribute [local go_sem] max2_int min2_int max_two min_two
open Go.Proofs.Ytjohfkpgghnpeaa.Gv Go.Proofs.Ytjohfkpgghnpeaa.PNum
set_option linter.unusedVariables false
set_option linter.unusedSimpArgs false
end Go.Proofs.Ytjohfkpgghnpeaa.PRef
end
section
namespace Go.Proofs.Ytjohfkpgghnpeaa.PRef
open Go.RowKit Go.Proofs.YtjohfkpgghnpeaaW.PrintWords Go.Proofs.YtjohfkpgghnpeaaW.PrintLast Go.Proofs.YtjohfkpgghnpeaaW.PrintMore
attribute [local go_sem] max2_int min2_int max_two min_two
open Go.Proofs.Ytjohfkpgghnpeaa.Gv Go.Proofs.Ytjohfkpgghnpeaa.PNum
set_option linter.unusedVariables false
set_option linter.unusedSimpArgs false
end Go.Proofs.Ytjohfkpgghnpeaa.PRef
end
section
namespace Go.Proofs.Ytjohfkpgghnpeaa.PRef
open Go.RowKit Go.Proofs.YtjohfkpgghnpeaaW.PrintWords Go.Proofs.YtjohfkpgghnpeaaW.PrintLast Go.Proofs.YtjohfkpgghnpeaaW.PrintMore
attribute [local go_sem] max2_int min2_int max_two min_two
open Go.Proofs.Ytjohfkpgghnpeaa.Gv Go.Proofs.Ytjohfkpgghnpeaa.PNum
set_option linter.unusedVariables false
set_option linter.unusedSimpArgs false
end Go.Proofs.Ytjohfkpgghnpeaa.PRef
end
section
namespace Go.Proofs.Ytjohfkpgghnpeaa.PRef
open Go.RowKit Go.Proofs.YtjohfkpgghnpeaaW.PrintWords Go.Proofs.YtjohfkpgghnpeaaW.PrintLast Go.Proofs.YtjohfkpgghnpeaaW.PrintMore
attribute [local go_sem] max2_int min2_int max_two min_two
open Go.Proofs.Ytjohfkpgghnpeaa.Gv Go.Proofs.Ytjohfkpgghnpeaa.PNum
set_option linter.unusedVariables false
set_option linter.unusedSimpArgs false
end Go.Proofs.Ytjohfkpgghnpeaa.PRef
end
section
namespace Go.Proofs.Ytjohfkpgghnpeaa.PRef
open Go.RowKit Go.Proofs.YtjohfkpgghnpeaaW.PrintWords Go.Proofs.YtjohfkpgghnpeaaW.PrintLast Go.Proofs.YtjohfkpgghnpeaaW.PrintMore
attribute [local go_sem] max2_int min2_int max_two min_two
open Go.Proofs.Ytjohfkpgghnpeaa.Gv Go.Proofs.Ytjohfkpgghnpeaa.PNum
set_option linter.unusedVariables false
set_option linter.unusedSimpArgs false
end Go.Proofs.Ytjohfkpgghnpeaa.PRef
end
section
namespace Go.Proofs.Ytjohfkpgghnpeaa.PRef
open Go.RowKit Go.Proofs.YtjohfkpgghnpeaaW.PrintWords Go.Proofs.YtjohfkpgghnpeaaW.PrintLast Go.Proofs.YtjohfkpgghnpeaaW.PrintMore
attribute [local go_sem] max2_int min2_int max_two min_two
open Go.Proofs.Ytjohfkpgghnpeaa.Gv Go.Proofs.Ytjohfkpgghnpeaa.PNum
set_option linter.unusedVariables false
set_option linter.unusedSimpArgs false
def extent_Eldest.l0 : Nat → List (S30) → Int → List (S30) → Int → Int → Option (Int)
  | 0, _, _, _, _, _ => none
  | k + 1, x0, x3, x6, x7, x8 => if x8 < x7 then (if 0 ≤ x8 then (if x8 < (x6.length : Int) then (if x3 < 0 then (extent_Eldest.l0 k x0 x8 x6 x7 (wrap64 (x8 + 1))) else (if 0 ≤ x3 then (if x3 < (x0.length : Int) then (if ((rd_T30 x6 x8).f1.f0) < ((rd_T30 x0 x3).f1.f0) then (extent_Eldest.l0 k x0 x8 x6 x7 (wrap64 (x8 + 1))) else (extent_Eldest.l0 k x0 x3 x6 x7 (wrap64 (x8 + 1)))) else (none)) else (none))) else (none)) else (none)) else (some x3)
def extent_Eldest.f (k : Nat) (l0 : List (S30)) : Option (Int) := extent_Eldest.l0 k l0 (-1) l0 (l0.length : Int) 0
end Go.Proofs.Ytjohfkpgghnpeaa.PRef
end
section
namespace Go.Proofs.Ytjohfkpgghnpeaa.PRef
open Go.RowKit Go.Proofs.YtjohfkpgghnpeaaW.PrintWords Go.Proofs.YtjohfkpgghnpeaaW.PrintLast Go.Proofs.YtjohfkpgghnpeaaW.PrintMore
attribute [local go_sem] max2_int min2_int max_two min_two
open Go.Proofs.Ytjohfkpgghnpeaa.Gv Go.Proofs.Ytjohfkpgghnpeaa.PNum
set_option linter.unusedVariables false
set_option linter.unusedSimpArgs false
end Go.Proofs.Ytjohfkpgghnpeaa.PRef
end
section
namespace Go.Proofs.Ytjohfkpgghnpeaa.PRef
open Go.RowKit Go.Proofs.YtjohfkpgghnpeaaW.PrintWords Go.Proofs.YtjohfkpgghnpeaaW.PrintLast Go.Proofs.YtjohfkpgghnpeaaW.PrintMore
attribute [local go_sem] max2_int min2_int max_two min_two
open Go.Proofs.Ytjohfkpgghnpeaa.Gv Go.Proofs.Ytjohfkpgghnpeaa.PNum
set_option linter.unusedVariables false
set_option linter.unusedSimpArgs false
end Go.Proofs.Ytjohfkpgghnpeaa.PRef
end
section
namespace Go.Proofs.Ytjohfkpgghnpeaa.PRef
open Go.RowKit Go.Proofs.YtjohfkpgghnpeaaW.PrintWords Go.Proofs.YtjohfkpgghnpeaaW.PrintLast Go.Proofs.YtjohfkpgghnpeaaW.PrintMore
attribute [local go_sem] max2_int min2_int max_two min_two
open Go.Proofs.Ytjohfkpgghnpeaa.Gv Go.Proofs.Ytjohfkpgghnpeaa.PNum
set_option linter.unusedVariables false
set_option linter.unusedSimpArgs false
def items_Put.l0 : Nat → ByteArray → List (S30) → Int → Int → Option (ByteArray)
  | 0, _, _, _, _ => none
  | k + 1, x3, x10, x11, x12 => if x12 < x11 then (if 0 ≤ x12 then (if x12 < (x10.length : Int) then ((num_Put.f (IntKind.u64.wrap (mx ((rd_T30 x10 x12).f0) 0))).bind fun t261 => ((item_Put.f ((rd_T30 x10 x12).f1.f0) ((rd_T30 x10 x12).f1.f1)).bind fun t262 => (if t261.size + t262.size ≤ 9223372036854775807 then (if x3.size + (t261 ++ t262).size ≤ 9223372036854775807 then (items_Put.l0 k (x3 ++ (t261 ++ t262)) x10 x11 (wrap64 (x12 + 1))) else (none)) else (none)))) else (none)) else (none)) else (some x3)
def items_Put.f (k : Nat) (l0 : List (S30)) : Option (ByteArray) := (num_Put.f (IntKind.u64.wrap ((l0.length : Int)))).bind fun t258 => (items_Put.l0 k t258 l0 (l0.length : Int) 0)
def items_Put.T5 : Bool × List (List Nat × List Nat) := (true, [([], []), ([], []), ([1], [1]), ([2], [2]), ([3], [3]), ([4], [4]), ([], []), ([6], [6]), ([7, 5], [7]), ([5, 8], [5, 8]), ([0, 9], [0, 9]), ([10, 8, 0, 1, 2, 3, 4, 5, 6, 7, 8, 9, 10], [0, 10])])
def items_Put.B5 : List Nat := [0, 0, 2, 6, 14, 30, 0, 64, 254, 510, 1023, 2047]
end Go.Proofs.Ytjohfkpgghnpeaa.PRef
end
