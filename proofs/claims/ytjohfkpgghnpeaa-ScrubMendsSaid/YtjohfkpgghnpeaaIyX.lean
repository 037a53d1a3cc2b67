-- packed by pack.py, a program of this claim's repo
import Derived.Test.YtjohfkpgghnpeaaIyC
import Derived.Test.YtjohfkpgghnpeaaIyD
import Derived.Test.YtjohfkpgghnpeaaIyF
import Derived.Test.YtjohfkpgghnpeaaIyB
import Derived.Test.YtjohfkpgghnpeaaIyG
import Derived.Test.YtjohfkpgghnpeaaIyH
import Derived.Test.YtjohfkpgghnpeaaIyI
import Derived.Test.YtjohfkpgghnpeaaIyA
import Derived.Test.YtjohfkpgghnpeaaIyJ
import Derived.Test.YtjohfkpgghnpeaaIyK
import Derived.Test.YtjohfkpgghnpeaaIyL
import Derived.Test.YtjohfkpgghnpeaaIyM
import Derived.Test.YtjohfkpgghnpeaaIyN
import Derived.Test.YtjohfkpgghnpeaaIyO
import Derived.Test.YtjohfkpgghnpeaaIyP
import Derived.Test.YtjohfkpgghnpeaaIyQ
import Derived.Test.YtjohfkpgghnpeaaIyR
import Derived.Test.YtjohfkpgghnpeaaIyE
import Derived.Test.YtjohfkpgghnpeaaIyS
import Derived.Test.YtjohfkpgghnpeaaIyT
import Derived.Test.YtjohfkpgghnpeaaIyU
import Derived.Test.YtjohfkpgghnpeaaIyV
import Derived.Test.YtjohfkpgghnpeaaIyW
section
namespace Go.Proofs.Ytjohfkpgghnpeaa.SetC
open Go Go.RowKit
open Go.Proofs.Ytjohfkpgghnpeaa.Gen
open Go.Proofs.Ytjohfkpgghnpeaa.Own
open Go.Proofs.Ytjohfkpgghnpeaa.RowK
open Go.Proofs.Ytjohfkpgghnpeaa.ItemC
open Go.Proofs.Ytjohfkpgghnpeaa.PRef
open Go.Proofs.Ytjohfkpgghnpeaa.ItmPr (ofL rd_at same_eq of_eq near_eq nearL near_length near_dom ofL_ok ofL_mem)
open Go.Proofs.YtjohfkpgghnpeaaW.PrintWords (Kd)
set_option linter.unusedVariables false
theorem sameB_refl (x : It) : sameB x x = true := by simp [sameB]
theorem unlike_self (l : List H) (h : ofL [] (l ++ l) = ofL [] l) : unlikeL l l = [] := by
  unfold unlikeL
  have : (ofL [] (l ++ l)).filter (unlikeP (ofL [] l) (ofL [] l)) = [] := by
    rw [List.filter_eq_nil_iff]
    intro x _
    simp [unlikeP, sameB_refl]
  rw [this]
  rfl
def aw43 : List H := [⟨3, ⟨5, ⟨#[]⟩⟩⟩]
theorem aw43_sz : ∀ x ∈ aw43, x.f1.f1.size ≤ 140737488355328 := by
  intro x hx
  obtain rfl := List.mem_singleton.1 hx
  decide
theorem nil_sz : ∀ x ∈ ([] : List H), x.f1.f1.size ≤ 140737488355328 := fun x hx => by cases hx
theorem rd_nil (w : World) : Rd w none 0 [] := ⟨fun _ => ⟨rfl, rfl⟩, fun ad e => by cases e⟩
theorem rd_one (w : World) (x : H) : Rd (w.alloc (.cells (hc x).toArray 30)) (some ⟨w.heap.size, 0, none⟩) 1 [x] := by
  refine ⟨fun e => (by cases e), fun ad e j u hu => ?_⟩
  rw [one_flat] at hu
  exact one_cells w x ad e j u hu
set_option maxRecDepth 20000 in
set_option maxHeartbeats 4000000 in
theorem scawake_calls (W : World) : Calls Try.prog 39 #[] W fun e w' => e = .returned (.bool true) ∧ Below W.heap.size W w' := by
  have hl1 : (unlikeL aw43 []).length = 1 := by rfl
  have hl2 : (lacksL aw43 []).length = 1 := by rfl
  have hl3 : (unlikeL aw43 aw43).length = 0 := by rw [unlike_self aw43 rfl]; rfl
  have bA : Below W.heap.size W (W.alloc (.cells #[.int .i64 3, .int .u64 5, .string ⟨#[]⟩] 30)) := (Below.refl _ _).alloc (Nat.le_refl _) _
  have hrd : Rd (W.alloc (.cells #[.int .i64 3, .int .u64 5, .string ⟨#[]⟩] 30)) (some ⟨W.heap.size, 0, none⟩) 1 aw43 := rd_one W ⟨3, ⟨5, ⟨#[]⟩⟩⟩
  have hu1 := unlike_calls _ _ 1 aw43 none 0 [] (by decide) aw43_sz nil_sz hrd (rd_nil _)
  have hu2 := fun w (h : Rd w (some ⟨W.heap.size, 0, none⟩) 1 aw43) => lacks_calls w _ 1 aw43 none 0 [] (by decide) (by decide) aw43_sz nil_sz h (rd_nil _)
  have hu3 := fun w (h : Rd w (some ⟨W.heap.size, 0, none⟩) 1 aw43) => unlike_calls w _ 1 aw43 _ 1 aw43 (by decide) aw43_sz aw43_sz h h
  unfold UPost at hu1 hu3
  unfold RowPost at hu2
  rw [hl1] at hu1
  simp only [hl2] at hu2
  simp only [hl3] at hu3
  have HU1 := Lib.hid hu1
  have HU2 := Lib.hid hu2
  have HU3 := Lib.hid hu3
  have HRD := Lib.hid hrd
  clear hu1 hu2 hu3 hl1 hl2 hl3 hrd
  go_enter Try.func39, Try.ntmps39
  go_wp2_with fail
  refine HU1.out.mono ?_; rintro e w1 ⟨A1, c1, rfl, _, _, b1⟩
  have hb1 := bA.trans (b1.mono bA.size)
  have HR1 := Lib.hid (HRD.out.b b1)
  clear bA b1
  go_wp2_with fail
  refine (HU2.out w1 HR1.out).mono ?_; rintro e w2 ⟨A2, c2, rfl, _, _, b2⟩
  have hb2 := hb1.trans (b2.mono hb1.size)
  have HR2 := Lib.hid (HR1.out.b b2)
  clear hb1 b2
  go_wp2_with fail
  refine (HU3.out w2 HR2.out).mono ?_; rintro e w3 ⟨A3, c3, rfl, _, _, b3⟩
  have hb3 := hb2.trans (b3.mono hb2.size)
  clear hb2 b3
  go_wp2_with fail
  go_ret
  exact ⟨rfl, hb3⟩
end Go.Proofs.Ytjohfkpgghnpeaa.SetC
namespace Go.Proofs.Ytjohfkpgghnpeaa.scrubUsed
open Go Go.RowKit
open Go.Proofs.Ytjohfkpgghnpeaa.Open
open Go.Proofs.Ytjohfkpgghnpeaa.ItmPr
set_option linter.unusedVariables false
end Go.Proofs.Ytjohfkpgghnpeaa.scrubUsed
end
section
namespace Go.Proofs.Ytjohfkpgghnpeaa.SetC
open Go Go.RowKit
open Go.Proofs.Ytjohfkpgghnpeaa.Gen
open Go.Proofs.Ytjohfkpgghnpeaa.Own
open Go.Proofs.Ytjohfkpgghnpeaa.RowK
open Go.Proofs.Ytjohfkpgghnpeaa.ItemC
open Go.Proofs.Ytjohfkpgghnpeaa.PRef
open Go.Proofs.Ytjohfkpgghnpeaa.ItmPr (ofL rd_at same_eq of_eq near_eq nearL near_length near_dom ofL_ok)
open Go.Proofs.YtjohfkpgghnpeaaW.PrintWords (Kd)
set_option linter.unusedVariables false
theorem rmerge_eq (x y : List H) (hl : x.length + y.length ≤ 500) (hs : ∀ z ∈ x ++ y, z.f1.f1.size ≤ 140737488355328) : tarnref09_Merge.f 1000 x y = some (ofL [] (x ++ y)) := by
  unfold tarnref09_Merge.f
  simp only [Option.bind_some, List.length_nil, List.nil_append]
  rw [if_pos (by omega), if_pos (by omega), of_eq _ (by rw [List.length_append]; omega) hs _ (by rw [List.length_append]; omega)]
  rfl
end Go.Proofs.Ytjohfkpgghnpeaa.SetC
namespace Go.Proofs.Ytjohfkpgghnpeaa.itemsMerge
open Go Go.RowKit
open Go.Proofs.Ytjohfkpgghnpeaa.Open
open Go.Proofs.Ytjohfkpgghnpeaa.ItmPr
set_option linter.unusedVariables false
end Go.Proofs.Ytjohfkpgghnpeaa.itemsMerge
end
section
namespace Go.Proofs.Ytjohfkpgghnpeaa.SetC
open Go Go.RowKit
open Go.Proofs.Ytjohfkpgghnpeaa.Gen
open Go.Proofs.Ytjohfkpgghnpeaa.Own
open Go.Proofs.Ytjohfkpgghnpeaa.RowK
open Go.Proofs.Ytjohfkpgghnpeaa.ItemC
open Go.Proofs.Ytjohfkpgghnpeaa.PRef
open Go.Proofs.Ytjohfkpgghnpeaa.ItmPr (ofL ofL_ok ofL_mem same_eq rget_eq)
open Go.Proofs.YtjohfkpgghnpeaaW.PrintWords (Kd)
set_option linter.unusedVariables false
structure Inp (W : World) (s : S3) : Prop where
  c : Kd.C k30 W s.A s.l.length s.l
  le : s.l.length ≤ s.cap
  sz : ∀ x ∈ s.l, x.f1.f1.size ≤ 9223372036854775807
  ver : ∀ x ∈ s.l, 0 ≤ x.f1.f0 ∧ x.f1.f0 < 18446744073709551616
theorem few_le (l : List H) : (fewL l).length ≤ 64 := ofL_le _
theorem few_sz2 {l : List H} (hv : ∀ x ∈ l, 0 ≤ x.f1.f0 ∧ x.f1.f0 < 18446744073709551616) : ∀ x ∈ fewL l, x.f1.f1.size ≤ 140737488355328 := ofL_sz _ (few_sz hv)
def LPost (ys : List S3) (W : World) (e : Ending) (w' : World) : Prop :=
  ∃ A1 c1 A2 c2, ∃ zs : List S3, e = .returned (.tuple #[.slice A1 (allL ys).length c1, .slice A2 ys.length c2]) ∧ Rd w' A1 c1 (allL ys) ∧ (allL ys).length ≤ c1 ∧
    w'.ownsRow W.heap.size 22 1 (.slice A2 ys.length c2) ys.length (flatS zs) ∧ zs.length = ys.length ∧ (∀ k (h : k < zs.length) (h2 : k < ys.length), zs[k].l = lacksL (allL ys) ys[k].l) ∧ (∀ y ∈ zs, Rd w' y.A y.cap y.l ∧ y.l.length ≤ y.cap) ∧ Below W.heap.size W w'
theorem lpost {ys : List S3} {W : World} {e : Ending} {w' : World} (h : MPost ys W e w') : LPost ys W e w' := by
  obtain ⟨A1, c1, A2, c2, zs, rfl, h1, h2, h3, h4, h5, h6, h7⟩ := h
  have hl : zs.length = ys.length := by simpa using congrArg List.length h5
  refine ⟨A1, c1, A2, c2, zs, by rw [hl], h1, h2, by rw [hl] at h3; exact h3, hl, fun k h h2 => ?_, h6, h7⟩
  have := congrArg (fun l => l[k]?) h5
  simpa [h, h2] using this
theorem own_cellsM {w : World} {B K n cap : Nat} {T : TypeId} {A : Option Addr} {xs : List Value} (h : w.ownsRow B T K (.slice A n cap) n xs) : ∀ ad, A = some ad → ∀ j u, xs[j]? = some u → w.cell? (ad.add j) = some u := by
  rintro ad rfl j u hu
  rcases h.2 with ⟨h1, _⟩ | ⟨g, _, _, h1, _⟩
  · cases h1
  · injection h1 with h1 _ _
    injection h1 with h1
    subst h1
    exact h.cells (g := g) rfl j u hu
theorem own_someM {w : World} {B K n cap : Nat} {T : TypeId} {A : Option Addr} {xs : List Value} (h : w.ownsRow B T K (.slice A n cap) n xs) (hn : 0 < n) : ∃ ad, A = some ad := by
  obtain ⟨g, _, _, hv, _⟩ := own_block h hn
  injection hv with hv
  exact ⟨_, hv⟩
def RdS (w : World) (A : Option Addr) (xs : List S3) : Prop := ∀ k, (h : k < xs.length) → ∃ ad, A = some ad ∧ w.cell? (ad.add k) = some (.slice xs[k].A xs[k].l.length xs[k].cap)
theorem RdS.b {w w' : World} {A : Option Addr} {xs : List S3} (h : RdS w A xs) (hb : Below w.heap.size w w') : RdS w' A xs := fun k hk => by
  obtain ⟨ad, e, hc⟩ := h k hk
  exact ⟨ad, e, cellB hb hc⟩
theorem RdS.of {w : World} {B n cap : Nat} {A : Option Addr} {xs : List S3} (h : w.ownsRow B 22 1 (.slice A n cap) n (flatS xs)) : RdS w A xs := fun k hk => by
  obtain ⟨ad, e, hc⟩ := Own.own_cell h k (sv xs[k]) (by unfold flatS; rw [List.getElem?_map, List.getElem?_eq_getElem hk]; rfl)
  exact ⟨ad, e, hc⟩
def RdL (w : World) (s : S3) : Prop := Rd w s.A s.cap s.l ∧ s.l.length ≤ s.cap
theorem RdL.b {w w' : World} {s : S3} (h : RdL w s) (hb : Below w.heap.size w w') : RdL w' s := ⟨h.1.b hb, h.2⟩
structure Mst (ys zs : List S3) (A1 A2 A4 : Option Addr) (c2 : Nat) (w : World) : Prop where
  ry : RdS w A1 ys
  rz : RdS w A4 zs
  ly : ∀ y ∈ ys, RdL w y
  lz : ∀ y ∈ zs, RdL w y
  lw : RdL w ⟨A2, c2, allL ys⟩
theorem Mst.b {ys zs : List S3} {A1 A2 A4 : Option Addr} {c2 : Nat} {w w' : World} (h : Mst ys zs A1 A2 A4 c2 w) (hb : Below w.heap.size w w') : Mst ys zs A1 A2 A4 c2 w' :=
  ⟨h.ry.b hb, h.rz.b hb, fun y hy => (h.ly y hy).b hb, fun y hy => (h.lz y hy).b hb, h.lw.b hb⟩
set_option maxRecDepth 20000 in
set_option maxHeartbeats 32000000 in
theorem mends_walk (A : Option Addr) (cap : Nat) (ls : List S3) (W : World) (hl : ls.length ≤ 9223372036854775807) (hA : 0 < ls.length → ∃ ad, A = some ad) (hc : ∀ ad, A = some ad → ∀ j u, (flatS ls)[j]? = some u → W.cell? (ad.add j) = some u) (hx : ∀ s ∈ ls, Inp W s) :
    Calls Try.prog 10 #[.slice A ls.length cap] W fun e w' => e = .returned (.bool true) ∧ Below W.heap.size W w' := by
  have HC := Lib.hid hc
  have HX := Lib.hid hx
  clear hc hx
  go_enter Try.func10, Try.ntmps10
  go_wp2_with fail
  have hk0 : Kp ((W.alloc (.cells #[] 22)).alloc (.cells #[] 30)) (some W.heap.size) ⟨some ⟨W.heap.size + 1, 0, none⟩, 0, []⟩ := by
    refine ⟨⟨fun e => (by cases e), fun ad e j u hu => (by cases hu)⟩, Nat.le_refl _, fun ad e => ?_, fun ad e => ?_⟩
    · injection e with e
      subst e
      simp
    · injection e with e
      subst e
      simp
  have ho0 : ((W.alloc (.cells #[] 22)).alloc (.cells #[] 30)).ownsRow W.heap.size 22 1 (.slice (some ⟨W.heap.size, 0, none⟩) 0 0) 0 [] :=
    own_below (own_empty (Nat.le_refl _) (heap_alloc_new W _)) ((Below.refl _ _).alloc (Nat.le_refl _) _)
  have hb0 : Below W.heap.size W ((W.alloc (.cells #[] 22)).alloc (.cells #[] 30)) := ((Below.refl _ _).alloc (Nat.le_refl _) _).alloc (by simp) _
  go_loopw [3, 4, 5] (fun iv wv nv w => ∃ (k : Nat) (A1 : Option Addr) (c1 : Nat) (A2 : Option Addr) (c2 : Nat) (ys : List S3), nv = .int .i64 k ∧ k ≤ 5 ∧ k ≤ ls.length ∧ iv = .slice A1 ys.length c1 ∧ wv = .slice A2 (allL ys).length c2 ∧ Hid (w.ownsRow W.heap.size 22 1 (.slice A1 ys.length c1) ys.length (flatS ys)) ∧ ys.length ≤ c1 ∧
    Hid (ys.map (·.l) = (ls.take k).map (fun s => fewL s.l)) ∧ Hid (∀ y ∈ ys, Kp w (Value.slice A1 ys.length c1).ownBlock y) ∧ Hid (Kp w (Value.slice A1 ys.length c1).ownBlock ⟨A2, c2, allL ys⟩) ∧ Below W.heap.size W w) (fun iv wv nv _ => 5 - (intOf nv).toNat)
  case atStart => exact ⟨0, some ⟨W.heap.size, 0, none⟩, 0, some ⟨W.heap.size + 1, 0, none⟩, 0, [], rfl, by omega, by omega, rfl, rfl, Lib.hid ho0, Nat.le_refl _, Lib.hid rfl, Lib.hid (fun y hy => by cases hy), Lib.hid hk0, hb0⟩
  case round =>
    clear hk0 ho0 hb0
    obtain ⟨k, A1, c1, A2, c2, ys, rfl, hk5, hk, rfl, rfl, HOW, hc1, HYS, HKP, HKW, hb⟩ := hrel
    by_cases hlt : k < ls.length ∧ k < 5
    · obtain ⟨h1, h2⟩ := hlt
      obtain ⟨ad, rfl⟩ := hA (by omega)
      have c0 := cellB hb (HC.out ad rfl k (sv ls[k]) (by unfold flatS; rw [List.getElem?_map, List.getElem?_eq_getElem h1]; rfl))
      unfold sv at c0
      have hin := HX.out _ (List.getElem_mem h1)
      have hfc := fun w (hw : Below W.heap.size W w) => few_calls w ls[k].A ls[k].cap ls[k].l (Kd.C_below hin.c hw) hin.le hin.sz hin.ver
      unfold RowPost at hfc
      have HFC := Lib.hid hfc
      clear hfc
      go_wp2_with fail
      refine (HFC.out wr hb).mono ?_; rintro e w9 ⟨A9, c9, rfl, ho9, hc9, b9⟩
      have hb9 := hb.trans (b9.mono hb.size)
      have bB : Below w9.heap.size w9 (w9.alloc (.cells #[.slice A9 (fewL ls[k].l).length c9] 22)) := (Below.refl _ _).alloc (Nat.le_refl _) _
      have HOW2 := Lib.hid (own_below (own_below HOW.out b9) bB)
      have hvlt : ∀ q, (Value.slice A1 ys.length c1).ownBlock = some q → q < wr.heap.size := fun q e => (HOW.out.lt q e).2
      have HKP2 : Hid (∀ y ∈ ys ++ [⟨A9, c9, fewL ls[k].l⟩], Kp (w9.alloc (.cells #[.slice A9 (fewL ls[k].l).length c9] 22)) (Value.slice A1 ys.length c1).ownBlock y) := fun y hy => by
        rcases List.mem_append.1 hy with hy | hy
        · exact ((HKP.out y hy).b b9).b bB
        · obtain rfl := List.mem_singleton.1 hy
          exact (Kp.fresh ho9 hc9 hvlt).b bB
      have HKW2 := Lib.hid ((HKW.out.b b9).b bB)
      have hb10 := hb9.trans (bB.mono hb9.size)
      have hsz := hb9.size
      have hyl : Hid (ys.length = k) := Lib.hid (by have h := congrArg List.length HYS.out; simp at h; omega)
      have hw0 := HC.out ad rfl k (sv ls[k]) (by unfold flatS; rw [List.getElem?_map, List.getElem?_eq_getElem h1]; rfl)
      unfold sv at hw0
      have HC0 := Lib.hid hw0
      clear hw0
      clear HOW HKP HKW hb b9 bB ho9 hvlt c0
      go_wp2_with (at_builtin
                   refine wpList_appG _ rfl (.tmp 28) (.tmp 34) _ rfl W.heap.size 22 (.slice none 0 0) 1 24 Try.underlying68 infoS rfl (by decide) _ ys.length (flatS ys) rfl
                     HOW2.out (some ⟨_, 0, none⟩) 1 1 (flatS [⟨A9, c9, fewL ls[k].l⟩]) rfl rfl (fun e => (by cases e)) (oneS_cells w9 ⟨A9, c9, fewL ls[k].l⟩) (oneS_one _) (by have := hyl.out; omega) (by omega) (by simp; omega) ?_
                   intro A6 cap6 w11 hr6 hc6 hb11 hs11 hm11 hob
                   have hbw := hb10.trans hb11
                   have c0 := cellB hbw HC0.out)
      refine (HFC.out w11 hbw).mono ?_; rintro e w12 ⟨A12, c12, rfl, ho12, hc12, b12⟩
      rw [← flatS_append] at hr6
      have HKW3 := Lib.hid (((HKW2.out.app hs11 hm11 hob).b b12))
      have hb12 := hbw.trans (b12.mono hbw.size)
      have HMG := Lib.hid (tarnref09_Merge.calls 1000 A2 c2 (allL ys) A12 c12 (fewL ls[k].l) (ofL [] (allL ys ++ fewL ls[k].l)) w12 (C_rd HKW3.out.rd (by have := allL_le ys; omega)) HKW3.out.le (C_rd (own_rd ho12).1 (by have := few_le ls[k].l; omega)) hc12 (rmerge_eq _ _ (by have := allL_le ys; have := few_le ls[k].l; omega) (fun z hz => by
        rcases List.mem_append.1 hz with h | h
        · exact allL_sz ys (fun y hy => by
            have hm := List.mem_map_of_mem (f := (·.l)) hy
            rw [HYS.out] at hm
            obtain ⟨s, hs, he⟩ := List.mem_map.1 hm
            rw [← he]
            exact few_sz2 (HX.out s (List.mem_of_mem_take hs)).ver) [] (fun x hx => by cases hx) z h
        · exact few_sz2 hin.ver z h)))
      clear c0
      go_wp2_with fail
      refine HMG.out.mono ?_; rintro e w13 ⟨v13, rfl, hR13, b13⟩
      obtain ⟨ho13, _⟩ := R_flat hR13
      obtain ⟨A13, c13, rfl, hc13⟩ := own_slice ho13
      have hsn : allL (ys ++ [⟨A9, c9, fewL ls[k].l⟩]) = ofL [] (allL ys ++ fewL ls[k].l) := allL_snoc ys _
      have hor := own_below (own_below hr6 b12) b13
      have hwl : ∀ q, (Value.slice A6 (ys.length + 1) cap6).ownBlock = some q → q < w12.heap.size := fun q e => Nat.lt_of_lt_of_le (hr6.lt q e).2 b12.size
      have hkw := Kp.fresh ho13 hc13 hwl
      rw [← hsn] at hkw hc13
      have hmap : (ys ++ [(⟨A9, c9, fewL ls[k].l⟩ : S3)]).map (·.l) = (ls.take (k + 1)).map (fun s => fewL s.l) := by
        rw [List.take_succ_eq_append_getElem h1, List.map_append, List.map_append, HYS.out]
        rfl
      have hlen : (ys ++ [(⟨A9, c9, fewL ls[k].l⟩ : S3)]).length = ys.length + 1 := by simp
      have HN := Lib.hid hsn
      have HL := Lib.hid hlen
      have hb13 := hb12.trans (b13.mono hb12.size)
      have HKY : Hid (∀ y ∈ ys ++ [(⟨A9, c9, fewL ls[k].l⟩ : S3)], Kp w13 (Value.slice A6 (ys.length + 1) cap6).ownBlock y) := fun y hy => (((HKP2.out y hy).app hs11 hm11 hob).b b12).b b13
      have HOR := Lib.hid hor
      have HKW5 := Lib.hid hkw
      have HMAP := Lib.hid hmap
      clear hsn hlen hor hkw hmap ho13 hR13 hwl
      go_wp2_with fail
      go_roundw
      case rel => exact ⟨k + 1, A6, cap6, A13, c13, ys ++ [⟨A9, c9, fewL ls[k].l⟩], by go_num, by omega, by omega, by rw [HL.out], by rw [HN.out], Lib.hid (by rw [HL.out]; exact HOR.out), by rw [HL.out]; exact hc6, HMAP, Lib.hid (by rw [HL.out]; exact HKY.out), Lib.hid (by rw [HL.out]; exact HKW5.out), hb13⟩
      case measure => simp [intOf]; omega
    · have hyl : ys.length = k := by have h := congrArg List.length HYS.out; simp at h; omega
      have hy5 : ys.length ≤ 5 := by omega
      have hyy : ∀ y ∈ ys, ofL [] y.l = y.l ∧ y.l.length ≤ 64 ∧ ∀ x ∈ y.l, x.f1.f1.size ≤ 140737488355328 := fun y hy => by
        have hm := List.mem_map_of_mem (f := (·.l)) hy
        rw [HYS.out] at hm
        obtain ⟨s, hs, he⟩ := List.mem_map.1 hm
        rw [← he]
        exact ⟨ofL_self _, few_le _, few_sz2 (HX.out s (List.mem_of_mem_take hs)).ver⟩
      have hmd : Calls Try.prog 44 #[.slice A1 ys.length c1] wr (LPost ys wr) := (mend_calls wr A1 c1 ys (by omega) (fun h => own_someM HOW.out h) (own_cellsM HOW.out) (fun s hs => ⟨(HKP.out s hs).rd, (hyy s hs).2⟩)).mono fun _ _ h => lpost h
      unfold LPost at hmd
      have HMD := Lib.hid hmd
      have HYY := Lib.hid hyy
      clear hmd hyy hyl HC HX HYS hA
      have hnot : ¬ (k < ls.length ∧ k < 5) := hlt
      have hml := allL_le ys
      go_upto_region 4 with fail
      go_cut [25] (fun s25 wx => s25 = .bool false ∧ wx = wr)
      case first =>
        by_cases hkl : k < ls.length
        · have hk5' : decide ((k : Int) < 5) = false := decide_eq_false (by omega)
          go_wp2_with fail
          go_meet
          exact ⟨rfl, rfl⟩
        · go_wp2_with fail
          go_meet
          exact ⟨rfl, rfl⟩
      case rest =>
        obtain ⟨rfl, hw⟩ := hcut
        rw [hw]
        clear hw wc hnot hlt
        go_wp2_with fail
        refine HMD.out.mono ?_; rintro e w2 ⟨A3, c3, A4, c4, zs, rfl, hrd, hc3, hoz, hzl, hzs, hzr, b2⟩
        have hm2 : Mst ys zs A1 A2 A4 c2 w2 := ⟨(RdS.of HOW.out).b b2, RdS.of hoz, fun y hy => RdL.b (w := wr) (s := y) ⟨(HKP.out y hy).rd, (HKP.out y hy).le⟩ b2, hzr, RdL.b (w := wr) (s := ⟨A2, c2, allL ys⟩) ⟨HKW.out.rd, HKW.out.le⟩ b2⟩
        have hb2 := hb.trans (b2.mono hb.size)
        have HM2 := Lib.hid hm2
        have HZL := Lib.hid hzl
        have HZS := Lib.hid hzs
        have HRD := Lib.hid hrd
        clear hm2 hzl hzs hrd hzr hoz b2 hb HMD HOW HKP HKW
        go_wp2_with fail
        refine (scawake_calls _).mono ?_; rintro e w3 ⟨rfl, b3⟩
        have HM3 := Lib.hid (HM2.out.b b3)
        have HSC := Lib.hid (tarnref09_Same.calls 100 A3 c3 (allL ys) A2 c2 (allL ys) true w3 (C_rd (HRD.out.b b3) (by omega)) hc3 (C_rd HM3.out.lw.1 (by omega)) HM3.out.lw.2 (same_eq (allL ys) 100 (by omega) (by omega)))
        have hb3 := hb2.trans (b3.mono hb2.size)
        clear HM2 HRD b3 hb2
        have hnn : ((ys.length : Int) == (ys.length : Int)) = true := by simp
        go_wp2_with fail
        refine HSC.out.mono ?_; rintro e w4 ⟨rfl, ⟨nd, rfl⟩⟩
        have HM4 := Lib.hid (HM3.out.b (drewB w3 nd))
        have hb4 : Below W.heap.size W (w3.drewN nd) := bN hb3 nd
        generalize w3.drewN nd = w4 at HM4 hb4 ⊢
        clear HM3 HSC hb3
        go_wp2_with fail
        go_loopw [8] (fun iv w => ∃ k : Nat, iv = .int .i64 k ∧ k ≤ ys.length ∧ Below w4.heap.size w4 w) (fun iv _ => ys.length - (intOf iv).toNat)
        case atStart => exact ⟨0, rfl, by omega, Below.refl _ _⟩
        case round =>
          obtain ⟨i, rfl, hi, hbr⟩ := hrel
          by_cases hil : i < ys.length
          · have hiz : i < zs.length := by rw [HZL.out]; exact hil
            have hM := HM4.out.b hbr
            obtain ⟨ad1, rfl, c1y⟩ := hM.ry i hil
            obtain ⟨ad4, rfl, c4z⟩ := hM.rz i hiz
            have hzl := HZS.out i hiz hil
            have hyl := hM.ly _ (List.getElem_mem hil)
            have hzl2 := hM.lz _ (List.getElem_mem hiz)
            have hyy := HYY.out _ (List.getElem_mem hil)
            have hlk := mends_len ys ys[i].l hyy.1
            have hhas := fun h => mends_has (List.getElem_mem hil) hyy.1 (h := h)
            have hnew := fun x => mends_new (xs := ys) hyy.1 (x := x)
            have hris : ∀ k a b, (lacksL (allL ys) ys[i].l)[k]? = some a → (lacksL (allL ys) ys[i].l)[k + 1]? = some b → a.f0 < b.f0 := fun k a b ha hb => by
              obtain ⟨h1, rfl⟩ := List.getElem?_eq_some_iff.1 ha
              obtain ⟨h2, rfl⟩ := List.getElem?_eq_some_iff.1 hb
              exact mends_rise hyy.1 h2
            have hlsz : ∀ x ∈ lacksL (allL ys) ys[i].l, x.f1.f1.size ≤ 140737488355328 := fun x hx => by
              rw [lacks_is ys hyy.1] at hx
              exact allL_sz ys (fun s hs => (HYY.out s hs).2.2) [] (fun x hx => by cases hx) x (List.mem_filter.1 hx).1
            rw [← hzl] at hhas hnew hris hlk hlsz
            generalize ys[i] = y at c1y hyl hyy hhas hnew hris hzl
            generalize zs[i] = z at c4z hzl2 hhas hnew hris hzl hlk hlsz
            obtain ⟨yA, yc, yl⟩ := y
            obtain ⟨zA, zc, zl⟩ := z
            simp only at c1y c4z hyl hzl2 hyy hhas hnew hris hzl hlk hlsz
            have hnowOk : Ok (ofL [] (yl ++ zl)) := ofL_ok _ [] ok_nil
            have hrm := rmerge_eq yl zl (by omega) (fun x hx => (List.mem_append.1 hx).elim (hyy.2.2 x) (hlsz x))
            have hgot : ∀ h ∈ allL ys, (getL (ofL [] (yl ++ zl)) h.f0).2 = true ∧ (getL (ofL [] (yl ++ zl)) h.f0).1.f0 = h.f1.f0 := fun h hh => getL_of_ver hnowOk (hzl ▸ hhas h hh)
            generalize ofL [] (yl ++ zl) = now at hnowOk hrm hgot
            have hmg : ∀ w', (w'.cell? (ad1.add i) = some (.slice yA yl.length yc) ∧ w'.cell? (ad4.add i) = some (.slice zA zl.length zc) ∧ Below wr.heap.size wr w') → Calls Try.prog 37 #[.slice yA yl.length yc, .slice zA zl.length zc] w' fun e w'' => ∃ A c, e = .returned (.slice A now.length c) ∧ Hid (∀ w3, Below w''.heap.size w'' w3 → RdL w3 ⟨A, c, now⟩) ∧ Below wr.heap.size wr w'' := fun w' hS => by
              have hw := hS.2.2
              refine (tarnref09_Merge.calls 1000 yA yc yl zA zc zl now w' (C_rd (hyl.b hw).1 (by omega)) hyl.2 (C_rd (hzl2.b hw).1 (by omega)) hzl2.2 hrm).mono ?_
              rintro e w'' ⟨v, rfl, hR, b⟩
              obtain ⟨ho, _⟩ := R_flat hR
              obtain ⟨A, c, rfl, hc⟩ := own_slice ho
              exact ⟨A, c, rfl, Lib.hid (fun w3 h3 => RdL.b (s := ⟨A, c, now⟩) ⟨(own_rd ho).1, hc⟩ h3), hw.trans (b.mono hw.size)⟩
            have HMG := Lib.hid hmg
            have HGOT := Lib.hid hgot
            have HNEW := Lib.hid hnew
            have HRIS := Lib.hid hris
            have HOK := Lib.hid hnowOk
            have HYL := Lib.hid hyl
            have HZ := Lib.hid hzl2
            have HYY2 := Lib.hid hyy
            have HM5 := Lib.hid hM
            have hyb := hyy.2.1
            clear hmg hgot hnew hris hnowOk hyl hzl2 hyy hM hhas hrm hlsz hzl
            go_upto_region 14 with fail
            go_cut [9] (fun s9 wx => ∃ A c, s9 = .slice A now.length c ∧ Hid (RdL wx ⟨A, c, now⟩) ∧ Below wr.heap.size wr wx)
            case first =>
              go_wp2_with fail
              have kB : ∀ {w' : World}, Below wr.heap.size wr w' → (w'.cell? (ad1.add i) = some (.slice yA yl.length yc) ∧ w'.cell? (ad4.add i) = some (.slice zA zl.length zc) ∧ Below wr.heap.size wr w') := fun hb => ⟨cellB hb c1y, cellB hb c4z, hb⟩
              go_region_held3 (fun w' => w'.cell? (ad1.add i) = some (.slice yA yl.length yc) ∧ w'.cell? (ad4.add i) = some (.slice zA zl.length zc) ∧ Below wr.heap.size wr w')
                (first | exact kB (Below.refl _ _).drew | (refine kB ?_; assumption))
                (first | (go_at_call 37; refine (HMG.out _ (by assumption)).mono ?_; rintro e w9 ⟨A9, c9, rfl, h9, b9⟩))
              all_goals
                go_wp2_with fail
                go_meet
                exact ⟨A9, c9, rfl, Lib.hid (h9.out _ (Below.refl _ _)), b9⟩
            case rest =>
              obtain ⟨A9, c9, rfl, HN, hb5⟩ := hcut
              have hnl : now.length ≤ 64 := HOK.out.len
              go_wp2_with fail
              go_loopw [10] (fun jv w => ∃ j : Nat, jv = .int .i64 j ∧ j ≤ (allL ys).length ∧ Below wc.heap.size wc w) (fun jv _ => (allL ys).length - (intOf jv).toNat)
              case atStart => exact ⟨0, rfl, by omega, Below.refl _ _⟩
              case round =>
                obtain ⟨j, rfl, hj, hbj⟩ := hrel
                by_cases hjl : j < (allL ys).length
                · have hM6 := HM5.out.b (hb5.trans (hbj.mono hb5.size))
                  obtain ⟨ad, e2, d0, d1, _⟩ := hM6.lw.1.at_ hjl
                  obtain rfl : A2 = some ad := e2
                  have hgt := HGOT.out _ (List.getElem_mem hjl)
                  have hgc := fun b => tarnref09_Get.calls 100 A9 c9 now b (getL now b).1.f0 (getL now b).1.f1 (getL now b).2 wr (C_rd (HN.out.b hbj).1 (by omega)) HN.out.2 (rget_eq now b HOK.out.1 (by omega) 100 (by omega))
                  generalize (allL ys)[j] = x at d0 d1 hgt
                  obtain ⟨xb, xv, xd⟩ := x
                  simp only at d0 d1 hgt
                  have hg1 := hgc xb
                  clear hgc hM6
                  generalize getL now xb = p at hg1 hgt
                  obtain ⟨⟨y0, y1⟩, is⟩ := p
                  simp only at hg1 hgt
                  obtain ⟨rfl, rfl⟩ := hgt
                  have HG1 := Lib.hid hg1
                  have D1 := Lib.hid d1
                  clear hg1 d1
                  go_wp2_with fail
                  refine HG1.out.mono ?_; rintro e w5 ⟨rfl, b5⟩
                  have bI : Below w5.heap.size w5 (w5.alloc (.cells #[.int .u64 y0, .string y1] 28)) := (Below.refl _ _).alloc (Nat.le_refl _) _
                  have bA := b5.trans (bI.mono b5.size)
                  have D2 := Lib.hid (cellB bA D1.out)
                  have bW := hbj.trans (bA.mono hbj.size)
                  clear d0 D1 bI b5 HG1
                  go_upto_region 19 with fail
                  refine name_world (fun w => Below wc.heap.size wc w ∧ Blk w w5.heap.size 28 #[.int .u64 y0, .string y1] ∧ w.cell? ⟨(ad.add (j * 3)).block, (ad.add (j * 3)).off + 1, none⟩ = some (.int .u64 y0)) ⟨bW, Blk.fresh _ _ _, D2.out⟩ ?_
                  clear D2 bW bA
                  rintro w7 ⟨hb7, kI, d1⟩
                  have e1 : w7.cell? ⟨w5.heap.size, 0, none⟩ = some (.int .u64 y0) := kI.cell 0
                  have hpp : (y0 != y0) = false := by simp
                  have z0 : (0 : Int) ≤ (j : Int) := by omega
                  have z1 : (j : Int) < ((allL ys).length : Int) := by omega
                  clear kI
                  go_quiet (fail)
                  go_wp2_with fail
                  go_roundw
                  case rel => exact ⟨j + 1, by go_num, by omega, bN hb7 _⟩
                  case measure => simp [intOf]; omega
                · obtain rfl : j = (allL ys).length := by omega
                  have hb8 := hb5.trans (hbj.mono hb5.size)
                  have C1 := Lib.hid (cellB hb8 c1y)
                  have C4 := Lib.hid (cellB hb8 c4z)
                  have HY8 := Lib.hid (HYL.out.b hb8)
                  have HZ8 := Lib.hid (HZ.out.b hb8)
                  have hbr8 := hbr.trans (hb8.mono hbr.size)
                  clear c1y c4z hbj HN HM5 HMG HGOT
                  rename World => w8
                  have C4b : w8.cell? (ad4.add i) = some (.slice zA zl.length zc) := C4.out
                  go_wp2_with fail
                  go_loopw [13] (fun jv w => ∃ j : Nat, jv = .int .i64 j ∧ j ≤ zl.length ∧ Below w8.heap.size w8 w) (fun jv _ => zl.length - (intOf jv).toNat)
                  case atStart => exact ⟨0, rfl, by omega, Below.refl _ _⟩
                  case round =>
                    clear C4b
                    obtain ⟨q, rfl, hq, hbq⟩ := hrel
                    have c4 := cellB hbq C4.out
                    by_cases hql : q < zl.length
                    · obtain ⟨adz, ez, z0, z1, _⟩ := HZ8.out.1.at_ hql
                      obtain rfl : zA = some adz := ez
                      have hpv : 0 < q → ∃ q1 b', (q1 : Nat) + 1 = q ∧ w8.cell? (adz.add (q1 * 3)) = some (.int .i64 b') ∧ b' < (zl[q]'hql).f0 := fun h0 => by
                        obtain ⟨adz', ez', y0, _, _⟩ := HZ8.out.1.at_ (j := q - 1) (show q - 1 < zl.length by omega)
                        injection ez' with ez'
                        subst ez'
                        refine ⟨q - 1, _, by omega, y0, HRIS.out (q - 1) _ _ (List.getElem?_eq_getElem (by omega)) ?_⟩
                        rw [show q - 1 + 1 = q by omega]
                        exact List.getElem?_eq_getElem hql
                      have c1 := cellB hbq C1.out
                      have hmx := List.getElem_mem hql
                      have hnw := HNEW.out _ hmx
                      have hyok : Ok yl := by rw [← HYY2.out.1]; exact ofL_ok _ [] ok_nil
                      have hgc := fun b (w : World) (hw : Below w8.heap.size w8 w) => tarnref09_Get.calls 100 yA yc yl b (getL yl b).1.f0 (getL yl b).1.f1 (getL yl b).2 w (C_rd (HY8.out.b hw).1 (by omega)) HY8.out.2 (rget_eq yl b hyok.1 (by omega) 100 (by omega))
                      generalize hx : zl[q] = x at z0 z1 hnw hpv
                      obtain ⟨xb, xv, xd⟩ := x
                      simp only at z0 z1 hnw hpv
                      have hg1 := hgc xb
                      clear hgc hmx hx hyok
                      generalize getL yl xb = p at hg1 hnw
                      obtain ⟨⟨y0, y1⟩, is⟩ := p
                      simp only at hg1 hnw
                      have HG1 := Lib.hid hg1
                      have HPV := Lib.hid hpv
                      have HNW := Lib.hid hnw
                      have Z0 := Lib.hid z0
                      have Z1 := Lib.hid z1
                      replace z0 := cellB hbq z0
                      clear hg1 hpv hnw z1
                      have i0 : (0 : Int) ≤ (i : Int) := by omega
                      have i1 : (i : Int) < (ys.length : Int) := by omega
                      have q0 : (0 : Int) ≤ (q : Int) := by omega
                      have q1 : (q : Int) < (zl.length : Int) := by omega
                      go_upto_region 24 with fail
                      go_cut [14, 15] (fun s14 s15 wx => s15 = .bool is ∧ ∃ a8, s14 = .pointer (some ⟨a8, 0, none⟩) ∧ Blk wx a8 28 #[.int .u64 y0, .string y1] ∧ Below w8.heap.size w8 wx)
                      case first =>
                        go_wp2_with fail
                        rename World => w9
                        have kB : ∀ {w' : World}, Below w9.heap.size w9 w' → (w'.cell? (ad1.add i) = some (.slice yA yl.length yc) ∧ w'.cell? (ad4.add i) = some (.slice (some adz) zl.length zc) ∧ w'.cell? (adz.add (q * 3)) = some (.int .i64 xb) ∧ Below w9.heap.size w9 w') := fun hb => ⟨cellB hb c1, cellB hb c4, cellB hb z0, hb⟩
                        have kC : ∀ {w' : World}, Below w9.drew.heap.size w9.drew w' → Below w9.heap.size w9 w' := fun hb => (Below.refl _ _).drew.trans hb
                        have kD : ∀ {w' : World}, Below (w9.alloc (.cells #[.int .u64 0, .string ⟨#[]⟩] 28)).drew.heap.size (w9.alloc (.cells #[.int .u64 0, .string ⟨#[]⟩] 28)).drew w' → Below w9.heap.size w9 w' := fun hb => ((Below.refl _ _).alloc (Nat.le_refl _) _).drew.trans (hb.mono (by simp))
                        have kG : ∀ w', (w'.cell? (ad1.add i) = some (.slice yA yl.length yc) ∧ w'.cell? (ad4.add i) = some (.slice (some adz) zl.length zc) ∧ w'.cell? (adz.add (q * 3)) = some (.int .i64 xb) ∧ Below w9.heap.size w9 w') → Below w8.heap.size w8 w' := fun w' h => hbq.trans (h.2.2.2.mono hbq.size)
                        go_region_held3 (fun w' => w'.cell? (ad1.add i) = some (.slice yA yl.length yc) ∧ w'.cell? (ad4.add i) = some (.slice (some adz) zl.length zc) ∧ w'.cell? (adz.add (q * 3)) = some (.int .i64 xb) ∧ Below w9.heap.size w9 w')
                          (first | exact kB (Below.refl _ _).drew | exact kB ((Below.refl _ _).alloc (Nat.le_refl _) _).drew | (refine kB (kC ?_); assumption) | (refine kB (kD ?_); assumption) | (refine kB ((kC ?_).alloc (kC ?_).size _) <;> assumption) | (refine kB (((kD ?_).setCell (p := ⟨w9.heap.size, 0, none⟩) (Nat.le_refl _) _).setCell (p := ⟨w9.heap.size, 1, none⟩) (Nat.le_refl _) _); assumption))
                          (first | (go_at_call 23; refine (HG1.out _ (kG _ (by assumption))).mono ?_; rintro e w3 ⟨rfl, b3⟩; (first | (have q3 : Blk w3 w9.heap.size 28 #[.int .u64 0, .string ⟨#[]⟩] := Blk.b (w := (w9.alloc (.cells #[.int .u64 0, .string ⟨#[]⟩] 28)).drew) (Blk.fresh w9 _ _) b3; have q30 := q3.cell 0; have q31 := q3.cell 1; have q32 := q3.frozen 0; have q33 := q3.frozen 1) | skip)))
                        all_goals
                          go_wp2_with fail
                          go_meet
                          first
                          | exact ⟨rfl, w3.heap.size, rfl, Blk.fresh _ _ _, hbq.trans (((kC b3).alloc (kC b3).size _).mono hbq.size)⟩
                          | exact ⟨rfl, w9.heap.size, rfl, heap_set (c := 1) (heap_set (c := 0) q3 _) _, hbq.trans ((((kD b3).setCell (p := ⟨w9.heap.size, 0, none⟩) (Nat.le_refl _) _).setCell (p := ⟨w9.heap.size, 1, none⟩) (Nat.le_refl _) _).mono hbq.size)⟩
                      case rest =>
                        obtain ⟨rfl, a8, rfl, k8, hb9⟩ := hcut
                        have C42 := Lib.hid (cellB hb9 C4.out)
                        have y0c := cellB hb9 Z0.out
                        have y1c := cellB hb9 Z1.out
                        have c4' := C42.out
                        have e1 : wc.cell? ⟨a8, 0, none⟩ = some (.int .u64 y0) := k8.cell 0
                        clear c1 c4 z0 hbq k8
                        have hge : is = true → decide (xv ≤ y0) = false := fun e => by
                          rcases HNW.out with h | h
                          · rw [e] at h; cases h
                          · exact decide_eq_false (by omega)
                        rcases Nat.eq_zero_or_pos q with h0 | h0
                        · have hq0 : decide (0 < (q : Int)) = false := decide_eq_false (by omega)
                          have hq0n : decide (0 < q) = false := decide_eq_false (by omega)
                          clear h0
                          cases is
                          · clear hge
                            go_wp2_with fail
                            go_quiet (fail)
                            go_wp2_with fail
                            go_roundw
                            case rel => exact ⟨q + 1, by go_num, by omega, bN hb9 _⟩
                            case measure => simp [intOf]; omega
                          · replace hge := hge rfl
                            go_wp2_with fail
                            go_quiet (fail)
                            go_wp2_with fail
                            go_roundw
                            case rel => exact ⟨q + 1, by go_num, by omega, bN hb9 _⟩
                            case measure => simp [intOf]; omega
                        · obtain ⟨r, b', hr, r0, hlt'⟩ := HPV.out h0
                          replace r0 := cellB hb9 r0
                          have hq0 : decide (0 < (q : Int)) = true := decide_eq_true (by omega)
                          have hq0n : decide (0 < q) = true := decide_eq_true (by omega)
                          have hwr : IntKind.i64.wrap ((q : Int) - 1) = (r : Int) := by rw [IntKind.wrap_i64]; omega
                          have hr0 : (0 : Int) ≤ (r : Int) := by omega
                          have hr1 : (r : Int) < (zl.length : Int) := by omega
                          have hle : decide (xb ≤ b') = false := decide_eq_false (by omega)
                          have HR := Lib.hid hr
                          clear h0 hr hlt'
                          cases is
                          · clear hge
                            go_wp2_with fail
                            go_quiet (fail)
                            go_wp2_with fail
                            go_roundw
                            case rel => exact ⟨q + 1, by go_num, by omega, bN hb9 _⟩
                            case measure => simp [intOf]; omega
                          · replace hge := hge rfl
                            go_wp2_with fail
                            go_quiet (fail)
                            go_wp2_with fail
                            go_roundw
                            case rel => exact ⟨q + 1, by go_num, by omega, bN hb9 _⟩
                            case measure => simp [intOf]; omega
                    · obtain rfl : q = zl.length := by omega
                      go_wp2_with fail
                      go_roundw
                      case rel => exact ⟨i + 1, by go_num, by omega, hbr8.trans (hbq.mono hbr8.size)⟩
                      case measure => simp [intOf]; omega
          · obtain rfl : i = ys.length := by omega
            go_wp2_with fail
            go_ret
            exact ⟨rfl, hb4.trans (hbr.mono hb4.size)⟩
end Go.Proofs.Ytjohfkpgghnpeaa.SetC
namespace Go.Proofs.Ytjohfkpgghnpeaa.scrubMends
open Go Go.RowKit
open Go.Proofs.Ytjohfkpgghnpeaa.Open
open Go.Proofs.Ytjohfkpgghnpeaa.ItmPr
open Go.Proofs.Ytjohfkpgghnpeaa.SetC (S3 sv flatS Inp)
set_option linter.unusedVariables false
def ofS (y : Sl shH.T) : S3 := ⟨y.A, y.cap, y.l.map ofSh⟩
set_option maxRecDepth 20000 in
theorem walk {H : Type} {enc : TypeId × Value → H} {W : World} {b : Nat} {v0 : Value} (ok0 : Value.okWide Try.prog W .any b 68 v0) {d0 : DataW H} {p0 : List MemPlace} (h0 : DataW.Trod enc Try.prog W 0 (fun _ => true) true 68 v0 d0 p0) :
    Calls Try.prog 10 #[v0] W fun e w' => e = .returned (.bool true) ∧ Below W.heap.size W w' := by
  obtain ⟨x, rfl, hok⟩ := open_sl (.sl shH) Try.underlying68 (by kernel_rfl) ok0 h0
  obtain ⟨q1, q2, q3, q4, q5⟩ := hok
  have h := SetC.mends_walk x.A x.cap (x.l.map ofS) W (by rw [List.length_map]; unfold maxLen at q2; omega) (fun hl => by
      rw [List.length_map] at hl
      cases hA : x.A with
      | none => rw [(q3 hA).1] at hl; simp at hl
      | some a => exact ⟨a, rfl⟩) (fun ad e j u hu => by
      unfold flatS at hu
      rw [List.map_map, List.getElem?_map] at hu
      cases hx : x.l[j]? with
      | none => rw [hx] at hu; cases hu
      | some y =>
        rw [hx] at hu
        simp only [Option.map_some, Option.some.injEq] at hu
        subst hu
        have c := q4 ad e j y hx 0 (.slice y.A y.l.length y.cap) rfl
        rw [show j * (Sh.sl shH).size + 0 = j by show j * 1 + 0 = j; omega] at c
        rw [c]
        show some _ = some (Value.slice y.A (y.l.map ofSh).length y.cap)
        rw [List.length_map]) (fun s hs => by
      obtain ⟨y, hy, rfl⟩ := List.mem_map.1 hs
      have ho := q5 y hy
      exact ⟨C_held y ho, by show (y.l.map ofSh).length ≤ y.cap; rw [List.length_map]; exact ho.1, held_size y ho, held_ver y ho⟩)
  rw [List.length_map] at h
  exact h
end Go.Proofs.Ytjohfkpgghnpeaa.scrubMends
end
