/- Small laws for walks: arrays compared, worlds named, cells below a frame. Over any program. -/
import Derived.WalkKit
import Derived.Laws.StructEq
import Derived.Lib.Hide
import Derived.Deep.Draws
import Derived.Below
import Derived.Laws.Bits64
import Derived.Laws.BitsLemmas
import Derived.Laws.AppendOwn
namespace Go.Proofs.Ytfacifhlcaghiaa.Gen
open Go Go.RowKit

/-- Two arrays of one-cell elements compared. -/
theorem equalIn_arr {P : Program} (w : World) (d t : Nat) (n : Nat) (e : TypeId) (xs ys : Array Value) (ht : P.underlying t = some (.array n e)) (hz : ∀ w, (sizeOf e).run P w = .ok 1 w) 
    (bs : List Bool) (hl : bs.length = n) (hb : ∀ (i : Nat) (b : Bool), bs[i]? = some b → ∃ x y, (∀ w, (part e xs i).run P w = .ok x w) ∧ (∀ w, (part e ys i).run P w = .ok y w) ∧ ∀ w, (Op.equalIn d e x y).run P w = .ok b w) :
    (Op.equalIn (d + 1) t (.agg xs) (.agg ys)).run P w = .ok (bs.all id) w := by
  simp only [Op.equalIn, Sem.run_bind, run_underlying ht, Result.andThen_ok, hz]
  rw [Std.Legacy.Range.forIn_eq_forIn_range']
  simp only [Std.Legacy.Range.size, Nat.sub_zero, Nat.add_sub_cancel, Nat.div_one]
  obtain ⟨m, hm⟩ : ∃ m, m = n := ⟨n, rfl⟩
  obtain ⟨s, hs⟩ : ∃ s, s = 0 := ⟨0, rfl⟩
  rw [show List.range' 0 n = List.range' s m by rw [hs, hm], show bs.all id = (bs.drop s).all id by rw [hs, List.drop_zero]]
  have hsm : s + m = n := by omega
  clear hs hm
  induction m generalizing s w with
  | zero =>
    rw [List.drop_of_length_le (by omega)]
    simp
  | succ m ih =>
    have hsl : s < bs.length := by omega
    obtain ⟨x, y, hx, hy, he⟩ := hb s bs[s] (List.getElem?_eq_getElem hsl)
    rw [List.range'_succ, List.drop_eq_getElem_cons hsl]
    simp only [List.forIn_cons, Sem.run_bind, Nat.mul_one, hx, hy, he, Result.andThen_ok, List.all_cons, id]
    cases hbs : bs[s]
    · simp
    · have := ih w (s + 1) (by omega)
      simp only [Nat.mul_one] at this
      simpa using this

theorem name_world {P : Program} {c : Code} {Q : Exit → Act → World → Prop} {a : Act} {w : World} (S : World → Prop) (hS : S w) (h : ∀ w', S w' → Code.wp P c Q a w') : Code.wp P c Q a w := h w hS
theorem name_exit {K : Act → World → Prop} {Q : Exit → Act → World → Prop} {e : Exit} {a : Act} {w : World} (S : World → Prop) (hS : S w) (h : ∀ w', S w' → Exit.then K Q e a w') : Exit.then K Q e a w := h w hS
theorem cellB {w w1 : World} (h : Below w.heap.size w w1) {a : Addr} {v : Value} (hc : w.cell? a = some v) : w1.cell? a = some v := (h.cell (World.block_lt_of_cell? w a hc)).trans hc
theorem drewB (w : World) (n : Nat) : Below w.heap.size w (w.drewN n) := ⟨rfl, rfl, rfl, Nat.le_refl _, fun _ _ => rfl⟩
theorem bN {w w1 : World} (h : Below w.heap.size w w1) (n : Nat) : Below w.heap.size w (w1.drewN n) := ⟨h.os, h.tape, h.output, h.size, h.block⟩
theorem thenB {w w1 w2 : World} (h : Below w.heap.size w w1) (k : Below w1.heap.size w1 w2) : Below w.heap.size w w2 :=
  h.trans ⟨k.os, k.tape, k.output, k.size, fun i hi => k.block i (Nat.lt_of_lt_of_le hi h.size)⟩
theorem callsB {P : Program} {f : FuncId} {args : Array Value} {w : World} {v : Value} (h : Calls P f args w fun x w' => x = .returned v ∧ ∃ k, w' = w.drewN k) : Calls P f args w fun x w' => x = .returned v ∧ Below w.heap.size w w' :=
  h.mono fun _ _ ⟨a, _, b⟩ => ⟨a, b ▸ drewB _ _⟩
theorem callsS {P : Program} {f : FuncId} {args : Array Value} {w : World} {v : Value} (h : Calls P f args w fun x w' => x = .returned v ∧ w = w') : Calls P f args w fun x w' => x = .returned v ∧ Below w.heap.size w w' :=
  h.mono fun _ _ ⟨a, b⟩ => ⟨a, b ▸ Below.refl _ _⟩

/-- A block of memory, known whole. -/
def Blk (w : World) (g : Nat) (T : TypeId) (cs : Array Value) : Prop := w.heap[g]? = some (.cells cs T (0, 0))
theorem Blk.fresh (w : World) (T : TypeId) (cs : Array Value) : Blk (w.alloc (.cells cs T)) w.heap.size T cs := heap_alloc_new w _
theorem Blk.lt {w : World} {g : Nat} {T : TypeId} {cs : Array Value} (h : Blk w g T cs) : g < w.heap.size := (Array.getElem?_eq_some_iff.1 h).1
theorem Blk.cell {w : World} {g : Nat} {T : TypeId} {cs : Array Value} (h : Blk w g T cs) (i : Nat) : w.cell? ⟨g, i, none⟩ = cs[i]? := by
  unfold Blk at h
  simp [World.cell?, h]
theorem Blk.frozen {w : World} {g : Nat} {T : TypeId} {cs : Array Value} (h : Blk w g T cs) (i : Nat) : w.frozen? ⟨g, i, none⟩ = false := by
  unfold World.frozen?
  rw [h]
  simp
theorem Blk.grown {w w' : World} {g : Nat} {T : TypeId} {cs : Array Value} {row : Option Nat} (h : Blk w g T cs) (hg : w.grownBy w' row) (hr : some g ≠ row) : Blk w' g T cs := (hg.block g h.lt hr).trans h
theorem Blk.below {w w' : World} {g B : Nat} {T : TypeId} {cs : Array Value} (h : Blk w g T cs) (hb : Below B w w') (hB : g < B) : Blk w' g T cs := (hb.block g hB).trans h
theorem Blk.b {w w' : World} {g : Nat} {T : TypeId} {cs : Array Value} (h : Blk w g T cs) (hb : Below w.heap.size w w') : Blk w' g T cs := h.below hb h.lt
/-- A mask of low bits. -/
theorem and_mask_i64 (a : Int) (j : Nat) (hj : j ≤ 62) : Go.bits .and .i64 a ((2 ^ j - 1 : Nat) : Int) = a % ((2 ^ j : Nat) : Int) := by
  have hp : 2 ^ j ≤ 2 ^ 62 := Nat.pow_le_pow_right (by decide) hj
  have h1 : 0 < 2 ^ j := Nat.pow_pos (by decide)
  show IntKind.i64.wrap ((((BitVec.ofInt 64 a) &&& (BitVec.ofInt 64 ((2 ^ j - 1 : Nat) : Int)) : BitVec 64).toNat : Nat) : Int) = _
  have e2 : (BitVec.ofInt 64 ((2 ^ j - 1 : Nat) : Int)).toNat = 2 ^ j - 1 := by
    rw [BitVec.toNat_ofInt]
    omega
  rw [BitVec.toNat_and, e2, Nat.and_two_pow_sub_one_eq_mod]
  have e1 : (BitVec.ofInt 64 a).toNat = (a % 18446744073709551616).toNat := by
    rw [BitVec.toNat_ofInt]; rfl
  rw [e1]
  have e3 : (((a % 18446744073709551616).toNat % 2 ^ j : Nat) : Int) = a % ((2 ^ j : Nat) : Int) := by
    rw [Int.natCast_emod, Int.toNat_of_nonneg (by omega)]
    refine Int.emod_emod_of_dvd _ ?_
    have : (18446744073709551616 : Int) = ((2 ^ 64 : Nat) : Int) := by decide
    rw [this]
    exact Int.natCast_dvd_natCast.2 (Nat.pow_dvd_pow 2 (by omega))
  rw [e3]
  have h2 : 0 ≤ a % ((2 ^ j : Nat) : Int) := Int.emod_nonneg _ (by omega)
  have h3 : a % ((2 ^ j : Nat) : Int) < ((2 ^ j : Nat) : Int) := Int.emod_lt_of_pos _ (by omega)
  rw [IntKind.wrap_i64]
  omega

theorem w64 {x : Int} (h0 : -9223372036854775808 ≤ x) (h1 : x ≤ 9223372036854775807) : wrap64 x = x := by unfold wrap64; omega
theorem wi64 {x : Int} (h0 : -9223372036854775808 ≤ x) (h1 : x ≤ 9223372036854775807) : IntKind.i64.wrap x = x := by rw [IntKind.wrap_i64]; omega
theorem wu64 {x : Int} (h0 : 0 ≤ x) (h1 : x < 18446744073709551616) : IntKind.u64.wrap x = x := by rw [IntKind.wrap_u64]; omega
end Go.Proofs.Ytfacifhlcaghiaa.Gen
