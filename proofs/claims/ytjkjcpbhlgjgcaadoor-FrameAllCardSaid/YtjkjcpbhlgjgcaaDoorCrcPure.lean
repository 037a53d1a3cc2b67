/- The plain law of checks (chapter 2), no Go in it: four bits at a time by the table is bit by bit; another bit, another check. -/
namespace Go.Proofs.YtjkjcpbhlgjgcaaDoor.Crc
/-! ### the plain law: checks, four bits at a time and bit by bit, over natural numbers -/
def poly : Nat := 3988292384
/-- One bit of the check. -/
def step (n : Nat) : Nat := n / 2 ^^^ (if n % 2 = 1 then poly else 0)
def tabs : List Nat := [0, 498536548, 997073096, 651767980, 1994146192, 1802195444, 1303535960, 1342533948, 3988292384, 4027552580, 3604390888, 3412177804, 2607071920, 2262029012, 2685067896, 3183342108]
def tabAt (i : Nat) : Nat := tabs.getD i 0
/-- Four bits by the table. -/
def nib (c b : Nat) : Nat := tabAt ((c ^^^ b) % 16) ^^^ c / 16
def byteN (c b : Nat) : Nat := nib (nib c b) (b / 16)
def moreN (c : Nat) (l : List UInt8) : Nat := l.foldl (fun c b => byteN c b.toNat) c

theorem xor_div2 (a b : Nat) : (a ^^^ b) / 2 = a / 2 ^^^ b / 2 := by
  have := Nat.xor_div_two_pow (a := a) (b := b) (n := 1)
  simpa using this
theorem xor_mod2 (a b : Nat) : (a ^^^ b) % 2 = (a % 2 + b % 2) % 2 := by
  have h := Nat.xor_mod_two_pow (a := a) (b := b) (n := 1)
  rw [show (2 : Nat) ^ 1 = 2 from rfl] at h
  rw [h]
  rcases Nat.mod_two_eq_zero_or_one a with ha | ha <;> rcases Nat.mod_two_eq_zero_or_one b with hb | hb <;> rw [ha, hb] <;> rfl
theorem step_xor (a b : Nat) : step (a ^^^ b) = step a ^^^ step b := by
  unfold step
  rw [xor_div2, xor_mod2]
  rcases Nat.mod_two_eq_zero_or_one a with ha | ha <;> rcases Nat.mod_two_eq_zero_or_one b with hb | hb <;> simp [ha, hb]
  · ac_rfl
  · ac_rfl
  · have e : ∀ x y p : Nat, x ^^^ y = x ^^^ p ^^^ (y ^^^ p) := fun x y p => by
      rw [Nat.xor_assoc, Nat.xor_comm y p, ← Nat.xor_assoc p p y, Nat.xor_self, Nat.zero_xor]
    exact e _ _ _
theorem step_even (m : Nat) : step (2 * m) = m := by
  unfold step
  rw [if_neg (by omega), Nat.xor_zero]
  omega
def step4 (n : Nat) : Nat := step (step (step (step n)))
theorem step4_xor (a b : Nat) : step4 (a ^^^ b) = step4 a ^^^ step4 b := by simp only [step4, step_xor]
theorem step4_mul (q : Nat) : step4 (16 * q) = q := by
  unfold step4
  rw [show 16 * q = 2 * (2 * (2 * (2 * q))) by omega, step_even, step_even, step_even, step_even]
theorem split16 (n : Nat) : n = 16 * (n / 16) ^^^ n % 16 := by
  have h : 16 * (n / 16) + n % 16 = n := Nat.div_add_mod n 16
  have h2 := Nat.two_pow_add_eq_or_of_lt (i := 4) (b := n % 16) (by omega) (n / 16)
  apply Nat.eq_of_testBit_eq
  intro i
  have h3 : n.testBit i = ((16 * (n / 16)) ||| (n % 16)).testBit i := congrArg (fun m => Nat.testBit m i) (h.symm.trans h2)
  rw [h3, Nat.testBit_or, Nat.testBit_xor]
  have e1 : (16 * (n / 16)).testBit i = (decide (i ≥ 4) && (n / 16).testBit (i - 4)) := Nat.testBit_two_pow_mul (i := 4)
  have e2 : (n % 16).testBit i = (decide (i < 4) && n.testBit i) := Nat.testBit_mod_two_pow n 4 i
  rw [e1, e2]
  by_cases c : i < 4
  · simp [c, show ¬ 4 ≤ i by omega]
  · simp [c]
theorem step4_small : ∀ r, r < 16 → step4 r = tabAt r := by decide
theorem step4_eq (n : Nat) : step4 n = tabAt (n % 16) ^^^ n / 16 := by
  conv => lhs; rw [split16 n]
  rw [step4_xor, step4_mul, step4_small _ (Nat.mod_lt _ (by decide)), Nat.xor_comm]
theorem xor_div16 (a b : Nat) : (a ^^^ b) / 16 = a / 16 ^^^ b / 16 := Nat.xor_div_two_pow (n := 4)
theorem xor_mod16 (a b : Nat) : (a ^^^ b) % 16 = (a % 16) ^^^ (b % 16) := Nat.xor_mod_two_pow (n := 4)
theorem byteN_eq (c b : Nat) (hb : b < 256) : byteN c b = step4 (step4 (c ^^^ b)) := by
  have h1 : step4 (c ^^^ b) = nib c b ^^^ b / 16 := by
    rw [step4_eq, xor_div16]
    unfold nib
    rw [Nat.xor_assoc]
  rw [h1, step4_eq, xor_div16]
  have h2 : b / 16 / 16 = 0 := by omega
  rw [h2, Nat.xor_zero]
  rfl
theorem step_lt {n : Nat} (h : n < 4294967296) : step n < 4294967296 := by
  unfold step
  have h1 : n / 2 < 2 ^ 32 := by omega
  have h2 : (if n % 2 = 1 then poly else 0) < 2 ^ 32 := by split <;> decide
  have := Nat.xor_lt_two_pow h1 h2
  omega
theorem step4_lt {n : Nat} (h : n < 4294967296) : step4 n < 4294967296 := step_lt (step_lt (step_lt (step_lt h)))
theorem xor_lt32 {a b : Nat} (ha : a < 4294967296) (hb : b < 4294967296) : a ^^^ b < 4294967296 := Nat.xor_lt_two_pow (n := 32) ha hb
theorem byteN_lt {c b : Nat} (hc : c < 4294967296) (hb : b < 256) : byteN c b < 4294967296 := by
  rw [byteN_eq c b hb]
  exact step4_lt (step4_lt (xor_lt32 hc (by omega)))
theorem step_bit (n : Nat) (h : n < 4294967296) : (step n).testBit 31 = decide (n % 2 = 1) := by
  unfold step
  rw [Nat.testBit_xor]
  have e : (n / 2).testBit 31 = false := Nat.testBit_lt_two_pow (by omega)
  rw [e]
  rcases Nat.mod_two_eq_zero_or_one n with hn | hn
  · simp [hn]
  · simp [hn]; decide
theorem xor_cancel {a b p : Nat} (h : a ^^^ p = b ^^^ p) : a = b := by
  have := congrArg (· ^^^ p) h
  simpa [Nat.xor_assoc] using this
theorem step_inj {a b : Nat} (ha : a < 4294967296) (hb : b < 4294967296) (h : step a = step b) : a = b := by
  have h1 := step_bit a ha
  rw [h, step_bit b hb] at h1
  have h2 : a % 2 = b % 2 := by
    have := decide_eq_decide.1 h1
    omega
  unfold step at h
  rw [h2] at h
  have := xor_cancel h
  omega
theorem step4_inj {a b : Nat} (ha : a < 4294967296) (hb : b < 4294967296) (h : step4 a = step4 b) : a = b :=
  step_inj ha hb (step_inj (step_lt ha) (step_lt hb) (step_inj (step_lt (step_lt ha)) (step_lt (step_lt hb)) (step_inj (step_lt (step_lt (step_lt ha))) (step_lt (step_lt (step_lt hb))) h)))
theorem byteN_injC {c d b : Nat} (hc : c < 4294967296) (hd : d < 4294967296) (hb : b < 256) (h : byteN c b = byteN d b) : c = d := by
  rw [byteN_eq _ _ hb, byteN_eq _ _ hb] at h
  have hb' : b < 4294967296 := by omega
  exact xor_cancel (step4_inj (xor_lt32 hc hb') (xor_lt32 hd hb') (step4_inj (step4_lt (xor_lt32 hc hb')) (step4_lt (xor_lt32 hd hb')) h))
theorem byteN_injB {c b d : Nat} (hc : c < 4294967296) (hb : b < 256) (hd : d < 256) (h : byteN c b = byteN c d) : b = d := by
  rw [byteN_eq _ _ hb, byteN_eq _ _ hd] at h
  have hb' : b < 4294967296 := by omega
  have hd' : d < 4294967296 := by omega
  have := step4_inj (xor_lt32 hc hb') (xor_lt32 hc hd') (step4_inj (step4_lt (xor_lt32 hc hb')) (step4_lt (xor_lt32 hc hd')) h)
  rw [Nat.xor_comm c b, Nat.xor_comm c d] at this
  exact xor_cancel this
theorem moreN_nil (c : Nat) : moreN c [] = c := rfl
theorem moreN_append (c : Nat) (l m : List UInt8) : moreN c (l ++ m) = moreN (moreN c l) m := by simp [moreN]
theorem moreN_cons (c : Nat) (b : UInt8) (l : List UInt8) : moreN c (b :: l) = moreN (byteN c b.toNat) l := rfl
theorem moreN_snoc (c : Nat) (l : List UInt8) (b : UInt8) : moreN c (l ++ [b]) = byteN (moreN c l) b.toNat := by simp [moreN]
theorem moreN_lt {c : Nat} (h : c < 4294967296) : ∀ l, moreN c l < 4294967296 := by
  intro l
  induction l generalizing c with
  | nil => exact h
  | cons b l ih => exact ih (byteN_lt h (UInt8.toNat_lt b))
theorem moreN_inj : ∀ (l : List UInt8) {c d : Nat}, c < 4294967296 → d < 4294967296 → moreN c l = moreN d l → c = d := by
  intro l
  induction l with
  | nil => intro c d _ _ h; exact h
  | cons b l ih =>
    intro c d hc hd h
    exact byteN_injC hc hd (UInt8.toNat_lt b) (ih (byteN_lt hc (UInt8.toNat_lt b)) (byteN_lt hd (UInt8.toNat_lt b)) h)
/-- One byte is another one: another state. -/
theorem moreN_other (p q : List UInt8) {x y : UInt8} (h : x ≠ y) {c : Nat} (hc : c < 4294967296) : moreN c (p ++ x :: q) ≠ moreN c (p ++ y :: q) := by
  intro e
  rw [moreN_append, moreN_append, moreN_cons, moreN_cons] at e
  have hm := moreN_lt hc p
  have := moreN_inj q (byteN_lt hm (UInt8.toNat_lt x)) (byteN_lt hm (UInt8.toNat_lt y)) e
  exact h (UInt8.toNat_inj.1 (byteN_injB hm (UInt8.toNat_lt x) (UInt8.toNat_lt y) this))
end Go.Proofs.YtjkjcpbhlgjgcaaDoor.Crc
