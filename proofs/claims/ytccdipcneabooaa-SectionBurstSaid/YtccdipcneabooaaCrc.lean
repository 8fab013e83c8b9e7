/- The plain mathematics of the sums: the table-driven and the bit-by-bit step on 32-bit states. -/
namespace Go.Proofs.Ytccdipcneabooaa.Crc

def poly : Nat := 3988292384
def step (c : Nat) : Nat := if c % 2 = 1 then (c / 2) ^^^ poly else c / 2
def steps : Nat → Nat → Nat
  | 0, c => c
  | k + 1, c => step (steps k c)
def tab (i : Nat) : Nat := steps 8 i
def upd (c b : Nat) : Nat := steps 8 (c ^^^ b)
def run (c : Nat) (l : List UInt8) : Nat := l.foldl (fun c b => upd c b.toNat) c
def inv (c : Nat) : Nat := c ^^^ 4294967295
def more (s : Nat) (l : List UInt8) : Nat := inv (run (inv s) l)

theorem poly_lt : poly < 4294967296 := by decide
theorem xor_lt {a b : Nat} (ha : a < 4294967296) (hb : b < 4294967296) : a ^^^ b < 4294967296 := Nat.xor_lt_two_pow (n := 32) ha hb
theorem step_lt {c : Nat} (h : c < 4294967296) : step c < 4294967296 := by
  unfold step
  split
  · exact xor_lt (by omega) poly_lt
  · omega
theorem steps_lt {c : Nat} (h : c < 4294967296) (k : Nat) : steps k c < 4294967296 := by
  induction k with
  | zero => exact h
  | succ k ih => exact step_lt ih
theorem upd_lt {c b : Nat} (h : c < 4294967296) (hb : b < 256) : upd c b < 4294967296 := steps_lt (xor_lt h (by omega)) 8
theorem run_lt (l : List UInt8) : ∀ {c : Nat}, c < 4294967296 → run c l < 4294967296 := by
  induction l with
  | nil => intro c h; exact h
  | cons b l ih => intro c h; exact ih (upd_lt h b.toNat_lt)
theorem inv_lt {c : Nat} (h : c < 4294967296) : inv c < 4294967296 := by
  have k : 4294967295 < 2 ^ 32 := by decide
  unfold inv
  exact Nat.xor_lt_two_pow (n := 32) h k
theorem inv_inv (c : Nat) : inv (inv c) = c := by
  unfold inv
  generalize 4294967295 = k
  rw [Nat.xor_assoc, Nat.xor_self, Nat.xor_zero]
theorem more_lt {s : Nat} (l : List UInt8) (h : s < 4294967296) : more s l < 4294967296 := inv_lt (run_lt l (inv_lt h))

theorem run_append (c : Nat) (a b : List UInt8) : run c (a ++ b) = run (run c a) b := by simp [run]
theorem more_append (s : Nat) (a b : List UInt8) : more s (a ++ b) = more (more s a) b := by
  simp [more, run_append, inv_inv]
theorem run_snoc (c : Nat) (a : List UInt8) (b : UInt8) : run c (a ++ [b]) = upd (run c a) b.toNat := by simp [run]

-- linearity
theorem xor_div2 (a b : Nat) : (a ^^^ b) / 2 = (a / 2) ^^^ (b / 2) := by
  have := Nat.shiftRight_xor_distrib (a := a) (b := b) (i := 1)
  simpa [Nat.shiftRight_eq_div_pow] using this
theorem xor_mod2 (a b : Nat) : (a ^^^ b) % 2 = (a % 2 + b % 2) % 2 := by
  have h : (a ^^^ b).testBit 0 = (a.testBit 0 ^^ b.testBit 0) := Nat.testBit_xor a b 0
  rw [Nat.testBit_zero, Nat.testBit_zero, Nat.testBit_zero] at h
  rcases Nat.mod_two_eq_zero_or_one a with ha | ha <;> rcases Nat.mod_two_eq_zero_or_one b with hb | hb <;> rcases Nat.mod_two_eq_zero_or_one (a ^^^ b) with hc | hc <;> simp_all
theorem xor_xor_xor (a b c d : Nat) : (a ^^^ b) ^^^ (c ^^^ d) = (a ^^^ c) ^^^ (b ^^^ d) := by
  rw [Nat.xor_assoc, Nat.xor_assoc, ← Nat.xor_assoc b c d, ← Nat.xor_assoc c b d, Nat.xor_comm b c]
theorem step_xor (a b : Nat) : step (a ^^^ b) = step a ^^^ step b := by
  unfold step
  rw [xor_div2, xor_mod2]
  rcases Nat.mod_two_eq_zero_or_one a with ha | ha <;> rcases Nat.mod_two_eq_zero_or_one b with hb | hb <;> simp only [ha, hb, Nat.reduceAdd, Nat.reduceMod, Nat.zero_ne_one, if_true, if_false]
  · rw [Nat.xor_assoc]
  · rw [Nat.xor_assoc, Nat.xor_comm (b / 2) poly, ← Nat.xor_assoc]
  · rw [xor_xor_xor, Nat.xor_self, Nat.xor_zero]
theorem steps_xor (k a b : Nat) : steps k (a ^^^ b) = steps k a ^^^ steps k b := by
  induction k with
  | zero => rfl
  | succ k ih => show step _ = step _ ^^^ step _; rw [ih, step_xor]
theorem steps_even (k c : Nat) : steps k (c * 2 ^ k) = c := by
  induction k generalizing c with
  | zero => simp [steps]
  | succ k ih =>
    show step (steps k _) = c
    have e : c * 2 ^ (k + 1) = (c * 2) * 2 ^ k := by rw [Nat.pow_succ, Nat.mul_assoc, Nat.mul_comm 2]
    rw [e, ih]
    unfold step
    rw [if_neg (by omega)]
    omega
theorem low_high (c : Nat) : c = (c % 256) ^^^ (c / 256 * 256) := by
  apply Nat.eq_of_testBit_eq
  intro i
  rw [Nat.testBit_xor, show (256 : Nat) = 2 ^ 8 from rfl, Nat.testBit_mod_two_pow, Nat.testBit_mul_two_pow, Nat.testBit_div_two_pow]
  by_cases hi : i < 8
  · simp [hi, show ¬ 8 ≤ i by omega]
  · simp [hi, show 8 ≤ i by omega]
/-- the table's step is eight steps, bit by bit -/
theorem upd_tab (c b : Nat) : upd c b = tab ((c % 256) ^^^ b) ^^^ (c / 256) := by
  have e : c ^^^ b = ((c % 256) ^^^ b) ^^^ (c / 256 * 2 ^ 8) := by
    have h := low_high c
    rw [Nat.xor_assoc, Nat.xor_comm b, ← Nat.xor_assoc]
    rw [show (2 : Nat) ^ 8 = 256 from rfl, ← h]
  unfold upd tab
  rw [e, steps_xor, steps_even]
theorem idx_lt {c b : Nat} (hb : b < 256) : (c % 256) ^^^ b < 256 := Nat.xor_lt_two_pow (n := 8) (by omega) hb

end Go.Proofs.Ytccdipcneabooaa.Crc
