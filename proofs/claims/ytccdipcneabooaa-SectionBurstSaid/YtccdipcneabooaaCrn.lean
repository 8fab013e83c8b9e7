/- The sum of a text by its number: all bytes at once; linearity; what a step takes to nothing. -/
import Derived.Test.YtccdipcneabooaaCrc
namespace Go.Proofs.Ytccdipcneabooaa.Crc

/-- a text as a number, the lowest byte first -/
def num : List UInt8 → Nat
  | [] => 0
  | b :: l => b.toNat ^^^ (num l * 256)

theorem steps_add (i j c : Nat) : steps (i + j) c = steps i (steps j c) := by
  induction i with
  | zero => simp [steps]
  | succ i ih => rw [Nat.add_right_comm]; show step _ = step _; rw [ih]

theorem run_num (l : List UInt8) : ∀ c : Nat, run c l = steps (8 * l.length) (c ^^^ num l) := by
  induction l with
  | nil => intro c; simp [run, num, steps]
  | cons b l ih =>
    intro c
    show run (upd c b.toNat) l = _
    rw [ih, List.length_cons, Nat.mul_add, steps_add]
    have hn : num (b :: l) = b.toNat ^^^ (num l * 256) := rfl
    unfold upd
    rw [hn, ← Nat.xor_assoc, show 8 * 1 = 8 from rfl, steps_xor 8 (c ^^^ b.toNat) (num l * 256), show num l * 256 = num l * 2 ^ 8 from rfl, steps_even]

theorem step_zero {c : Nat} (h : c < 4294967296) (h0 : step c = 0) : c = 0 := by
  unfold step at h0
  split at h0
  · have e : c / 2 = poly := by
      have := congrArg (· ^^^ poly) h0
      simpa [Nat.xor_assoc] using this
    unfold poly at e
    omega
  · omega
theorem steps_zero (k : Nat) : ∀ {c : Nat}, c < 4294967296 → steps k c = 0 → c = 0 := by
  induction k with
  | zero => intro c _ h; exact h
  | succ k ih => intro c h h0; exact ih h (step_zero (steps_lt h k) h0)
theorem steps_nil (k : Nat) : steps k 0 = 0 := by
  have := steps_even k 0
  simpa using this
/-- a difference of at most 32 bits, at a place within, is not taken to nothing -/
theorem steps_shift_zero {k a e : Nat} (ha : a ≤ k) (he : e < 4294967296) (h : steps k (e * 2 ^ a) = 0) : e = 0 := by
  rw [show k = (k - a) + a by omega, steps_add, steps_even] at h
  exact steps_zero _ he h

theorem xor_eq_zero {a b : Nat} (h : a ^^^ b = 0) : a = b := by
  have := congrArg (· ^^^ b) h
  simpa [Nat.xor_assoc] using this
theorem inv_inj {a b : Nat} (h : inv a = inv b) : a = b := by
  have := congrArg inv h
  rwa [inv_inv, inv_inv] at this
/-- two texts of one length have one sum just if what they differ by is taken to nothing -/
theorem more_diff (s : Nat) (a b : List UInt8) (hl : a.length = b.length) : more s a = more s b ↔ steps (8 * a.length) (num a ^^^ num b) = 0 := by
  have key : run (inv s) a ^^^ run (inv s) b = steps (8 * a.length) (num a ^^^ num b) := by
    rw [run_num, run_num, ← hl, ← steps_xor, xor_xor_xor, Nat.xor_self, Nat.zero_xor]
  constructor
  · intro h
    rw [← key, inv_inj h, Nat.xor_self]
  · intro h
    unfold more
    rw [xor_eq_zero (key.trans h)]

theorem num_lt (l : List UInt8) : num l < 2 ^ (8 * l.length) := by
  induction l with
  | nil => simp [num]
  | cons b l ih =>
    have hb : b.toNat < 2 ^ 8 := b.toNat_lt
    show b.toNat ^^^ (num l * 256) < _
    rw [List.length_cons, Nat.mul_add, show 8 * 1 = 8 from rfl, Nat.pow_add]
    have h2 : b.toNat ^^^ (num l * 256) < 2 ^ (8 * l.length + 8) := by
      refine Nat.xor_lt_two_pow ?_ ?_
      · exact Nat.lt_of_lt_of_le hb (Nat.pow_le_pow_right (by omega) (by omega))
      · rw [Nat.pow_add]; exact Nat.mul_lt_mul_of_lt_of_le ih (Nat.le_refl _) (by decide)
    rwa [Nat.pow_add] at h2
theorem num_cons (b : UInt8) (l : List UInt8) : num (b :: l) = b.toNat + num l * 256 := by
  show b.toNat ^^^ (num l * 256) = _
  have hb : b.toNat < 2 ^ 8 := b.toNat_lt
  apply Nat.eq_of_testBit_eq
  intro i
  rw [Nat.testBit_xor, show num l * 256 = num l * 2 ^ 8 from rfl, Nat.add_comm, Nat.mul_comm, Nat.testBit_two_pow_mul_add _ hb, Nat.testBit_two_pow_mul]
  by_cases hi : i < 8
  · simp [hi, show ¬ 8 ≤ i by omega]
  · have : b.toNat.testBit i = false := Nat.testBit_lt_two_pow (Nat.lt_of_lt_of_le hb (Nat.pow_le_pow_right (by omega) (by omega)))
    simp [hi, show 8 ≤ i by omega, this]
theorem num_append (a b : List UInt8) : num (a ++ b) = num a + num b * 2 ^ (8 * a.length) := by
  induction a with
  | nil => simp [num]
  | cons x a ih =>
    rw [List.cons_append, num_cons, num_cons, ih, List.length_cons, Nat.mul_add, Nat.pow_add, Nat.add_mul, Nat.add_assoc]
    congr 2
    rw [show 2 ^ (8 * 1) = 256 from rfl, Nat.mul_assoc]
theorem num_inj : ∀ {a b : List UInt8}, a.length = b.length → num a = num b → a = b
  | [], [], _, _ => rfl
  | x :: a, y :: b, hl, h => by
    rw [num_cons, num_cons] at h
    have hx := x.toNat_lt
    have hy := y.toNat_lt
    have e : x.toNat = y.toNat := by omega
    have e2 : num a = num b := by omega
    rw [UInt8.toNat_inj.1 e, num_inj (by simpa using hl) e2]

/-- the sum with itself behind it -/
theorem zero_sum (s : List UInt8) (a b c d : UInt8) (h : a.toNat + 256 * b.toNat + 65536 * c.toNat + 16777216 * d.toNat = more 0 s) : more 0 (s ++ [a, b, c, d]) = 558161692 := by
  rw [more_append]
  have hn : num [a, b, c, d] = more 0 s := by
    rw [num_cons, num_cons, num_cons, num_cons]
    simp only [num]
    omega
  generalize more 0 s = n at hn
  unfold more
  rw [run_num, hn]
  have e : inv n ^^^ n = 4294967295 := by
    unfold inv
    generalize 4294967295 = k
    rw [Nat.xor_comm n k, Nat.xor_assoc, Nat.xor_self, Nat.xor_zero]
  rw [e]
  show inv (steps 32 4294967295) = 558161692
  decide +kernel
end Go.Proofs.Ytccdipcneabooaa.Crc
namespace Go.Proofs.Ytccdipcneabooaa.Crc
def xorL (a b : List UInt8) : List UInt8 := List.zipWith (fun x y => x ^^^ y) a b
theorem xorL_length (a b : List UInt8) (h : a.length = b.length) : (xorL a b).length = a.length := by simp [xorL, h]
theorem num_xorL : ∀ {a b : List UInt8}, a.length = b.length → num (xorL a b) = num a ^^^ num b
  | [], [], _ => rfl
  | x :: a, y :: b, hl => by
    have ih := num_xorL (a := a) (b := b) (by simpa using hl)
    have e1 : num (xorL (x :: a) (y :: b)) = (x ^^^ y).toNat ^^^ (num (xorL a b) * 256) := rfl
    have e2 : num (x :: a) = x.toNat ^^^ (num a * 256) := rfl
    have e3 : num (y :: b) = y.toNat ^^^ (num b * 256) := rfl
    have e4 : (num a ^^^ num b) * 256 = (num a * 256) ^^^ (num b * 256) := by
      have := Nat.shiftLeft_xor_distrib (a := num a) (b := num b) (i := 8)
      simpa [Nat.shiftLeft_eq] using this
    rw [e1, e2, e3, ih, e4, UInt8.toNat_xor, xor_xor_xor]
theorem three_sum (a b c : List UInt8) (h1 : b.length = a.length) (h2 : c.length = a.length) : more 0 (xorL (xorL a b) c) = more 0 a ^^^ more 0 b ^^^ more 0 c := by
  have hl := xorL_length a b h1.symm
  have hl2 := xorL_length (xorL a b) c (by rw [hl, h2])
  have hn : num (xorL (xorL a b) c) = num a ^^^ num b ^^^ num c := by rw [num_xorL (by rw [hl, h2]), num_xorL h1.symm]
  unfold more
  rw [run_num, run_num, run_num, run_num, hn, hl2, hl, h1, h2]
  generalize 8 * a.length = N
  generalize hA : num a = A
  generalize hB : num b = B
  generalize hC : num c = C
  have e : inv 0 ^^^ (A ^^^ B ^^^ C) = (inv 0 ^^^ A) ^^^ (inv 0 ^^^ B) ^^^ (inv 0 ^^^ C) := by
    generalize inv 0 = k
    rw [xor_xor_xor k A k B, Nat.xor_self, Nat.zero_xor, ← Nat.xor_assoc (A ^^^ B) k C, Nat.xor_comm (A ^^^ B) k, Nat.xor_assoc k]
  rw [e, steps_xor, steps_xor]
  generalize steps N (inv 0 ^^^ A) = X
  generalize steps N (inv 0 ^^^ B) = Y
  generalize steps N (inv 0 ^^^ C) = Z
  unfold inv
  generalize 4294967295 = k
  rw [xor_xor_xor X k Y k, Nat.xor_self, Nat.xor_zero, Nat.xor_assoc]
end Go.Proofs.Ytccdipcneabooaa.Crc
