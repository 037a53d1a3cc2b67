/- Functions of layer 1 whose contracts are handed to the print (gprint.py): num.Put, Word, Text, List, big; tarnref01.Text, Put, Word, List. Lengths are bounded as memory bounds them. -/
import Derived.Test.YtjkjcpbhlgjgcaaDoorNumC3
import Derived.Test.YtjkjcpbhlgjgcaaDoorWMore
namespace Go.Proofs.YtjkjcpbhlgjgcaaDoor.Gv
open Go Go.RowKit
open Go.Proofs.YtjkjcpbhlgjgcaaDoor.Gen
open Go.Proofs.YtjkjcpbhlgjgcaaDoor.Num
open Go.Proofs.YtjkjcpbhlgjgcaaDoor.NumC
open Go.Proofs.YtjkjcpbhlgjgcaaDoorW.PrintWords
set_option linter.unusedVariables false
theorem mk_list (s : ByteArray) : (⟨s.data.toList.toArray⟩ : ByteArray) = s := by obtain ⟨⟨l⟩⟩ := s; rfl
theorem size_list (s : ByteArray) : s.data.toList.length = s.size := by obtain ⟨⟨l⟩⟩ := s; rfl

def num_Put.f (a0 : Int) : Option ByteArray := if 0 ≤ a0 ∧ a0 < 18446744073709551616 then some ⟨(put a0.toNat).toArray⟩ else none
theorem num_Put.calls (a0 : Int) (r : ByteArray) (w : World) (h : num_Put.f a0 = some r) : Calls Tryd.prog 50 #[.int .u64 a0] w fun e w' => e = .returned (.string r) ∧ Below w.heap.size w w' := by
  unfold num_Put.f at h
  split at h
  · rename_i hb
    obtain ⟨n, rfl⟩ : ∃ n : Nat, a0 = n := ⟨a0.toNat, by omega⟩
    injection h with h
    subst h
    exact put_any n (by omega) w
  · cases h
def num_Word.f (a0 : Int) : Option ByteArray := if 0 ≤ a0 ∧ a0 < 4294967296 then some ⟨(word a0.toNat).toArray⟩ else none
theorem num_Word.calls (a0 : Int) (r : ByteArray) (w : World) (h : num_Word.f a0 = some r) : Calls Tryd.prog 26 #[.int .u32 a0] w fun e w' => e = .returned (.string r) ∧ Below w.heap.size w w' := by
  unfold num_Word.f at h
  split at h
  · rename_i hb
    obtain ⟨n, rfl⟩ : ∃ n : Nat, a0 = n := ⟨a0.toNat, by omega⟩
    injection h with h
    subst h
    exact word_any n (by omega) w
  · cases h
def num_Text.f (a0 : ByteArray) : Option ByteArray := if a0.size ≤ 140737488351232 then some ⟨(text a0.data.toList).toArray⟩ else none
theorem num_Text.calls (a0 : ByteArray) (r : ByteArray) (w : World) (h : num_Text.f a0 = some r) : Calls Tryd.prog 25 #[.string a0] w fun e w' => e = .returned (.string r) ∧ Below w.heap.size w w' := by
  unfold num_Text.f at h
  split at h
  · rename_i hb
    injection h with h
    subst h
    exact text_any a0 hb w
  · cases h
theorem ints_of {w : World} {A : Option Addr} {l : List Int} (h : Kd.C (Kd.int .i64) w A l.length l) : Ints w A l := fun i hi => by
  obtain ⟨_, _, hc⟩ := Kd.reads_of_C (d := (0 : Int)) (h1 := fun _ => rfl) h
  obtain ⟨ad, e, hc⟩ := hc (by omega)
  refine ⟨ad, e, ?_⟩
  rw [hc i hi, List.getD_eq_getElem?_getD]
def num_List.f (l0 : List Int) : Option ByteArray := if l0.length ≤ 1000000000000 ∧ ∀ n ∈ l0, n ≤ 9223372036854775807 then some ⟨(list l0).toArray⟩ else none
theorem num_List.calls (A0 : Option Addr) (c0 : Nat) (l0 : List Int) (r : ByteArray) (w : World) (hr0 : Kd.C (Kd.int .i64) w A0 l0.length l0) (hc0 : l0.length ≤ c0) (h : num_List.f l0 = some r) :
    Calls Tryd.prog 40 #[.slice A0 l0.length c0] w fun e w' => e = .returned (.string r) ∧ Below w.heap.size w w' := by
  unfold num_List.f at h
  split at h
  · rename_i hb
    injection h with h
    subst h
    exact list_any A0 c0 l0 hb.1 hb.2 w (ints_of hr0)
  · cases h
def num_big.f (a0 : ByteArray) : Option Int := if a0.size ≤ 8 then some (value a0.data.toList : Int) else none
theorem num_big.calls (a0 : ByteArray) (r : Int) (w : World) (h : num_big.f a0 = some r) : Calls Tryd.prog 71 #[.string a0] w fun e w' => e = .returned (.int .u64 r) ∧ Below w.heap.size w w' := by
  unfold num_big.f at h
  split at h
  · rename_i hb
    injection h with h
    subst h
    have := big_any a0.data.toList (by rw [size_list]; exact hb) w
    rwa [mk_list] at this
  · cases h
def tarnref01_Put.f (a0 : Int) : Option ByteArray := if 0 ≤ a0 ∧ a0 < 18446744073709551616 then some ⟨(put a0.toNat).toArray⟩ else none
theorem tarnref01_Put.calls (a0 : Int) (r : ByteArray) (w : World) (h : tarnref01_Put.f a0 = some r) : Calls Tryd.prog 56 #[.int .u64 a0] w fun e w' => e = .returned (.string r) ∧ Below w.heap.size w w' := by
  unfold tarnref01_Put.f at h
  split at h
  · rename_i hb
    obtain ⟨n, rfl⟩ : ∃ n : Nat, a0 = n := ⟨a0.toNat, by omega⟩
    injection h with h
    subst h
    exact refPut_any n (by omega) w
  · cases h
def tarnref01_Word.f (a0 : Int) : Option ByteArray := if 0 ≤ a0 ∧ a0 < 4294967296 then some ⟨(word a0.toNat).toArray⟩ else none
theorem tarnref01_Word.calls (a0 : Int) (r : ByteArray) (w : World) (h : tarnref01_Word.f a0 = some r) : Calls Tryd.prog 32 #[.int .u32 a0] w fun e w' => e = .returned (.string r) ∧ Below w.heap.size w w' := by
  unfold tarnref01_Word.f at h
  split at h
  · rename_i hb
    obtain ⟨n, rfl⟩ : ∃ n : Nat, a0 = n := ⟨a0.toNat, by omega⟩
    injection h with h
    subst h
    exact refWord_any n (by omega) w
  · cases h
def tarnref01_Text.f (a0 : ByteArray) : Option ByteArray := if a0.size ≤ 140737488351232 then some ⟨(text a0.data.toList).toArray⟩ else none
theorem tarnref01_Text.calls (a0 : ByteArray) (r : ByteArray) (w : World) (h : tarnref01_Text.f a0 = some r) : Calls Tryd.prog 31 #[.string a0] w fun e w' => e = .returned (.string r) ∧ Below w.heap.size w w' := by
  unfold tarnref01_Text.f at h
  split at h
  · rename_i hb
    injection h with h
    subst h
    exact refText_any a0 hb w
  · cases h
def tarnref01_List.f (l0 : List Int) : Option ByteArray := if l0.length ≤ 1000000000000 ∧ ∀ n ∈ l0, n ≤ 9223372036854775807 then some ⟨(list l0).toArray⟩ else none
theorem tarnref01_List.calls (A0 : Option Addr) (c0 : Nat) (l0 : List Int) (r : ByteArray) (w : World) (hr0 : Kd.C (Kd.int .i64) w A0 l0.length l0) (hc0 : l0.length ≤ c0) (h : tarnref01_List.f l0 = some r) :
    Calls Tryd.prog 45 #[.slice A0 l0.length c0] w fun e w' => e = .returned (.string r) ∧ Below w.heap.size w w' := by
  unfold tarnref01_List.f at h
  split at h
  · rename_i hb
    injection h with h
    subst h
    exact refList_any A0 c0 l0 hb.1 hb.2 w (ints_of hr0)
  · cases h
end Go.Proofs.YtjkjcpbhlgjgcaaDoor.Gv
