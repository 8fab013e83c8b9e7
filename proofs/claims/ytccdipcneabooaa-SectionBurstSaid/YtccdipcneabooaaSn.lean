/- Numbers as bytes, and bytes as numbers: plain. -/
import Derived.Test.YtccdipcneabooaaCrn
namespace Go.Proofs.Ytccdipcneabooaa.Sec
open Crc (num)

/-- the w lowest bytes of a number, the lowest first -/
def numB (n : Nat) : Nat → List UInt8
  | 0 => []
  | w + 1 => UInt8.ofNat n :: numB (n / 256) w
theorem numB_length (w : Nat) : ∀ n, (numB n w).length = w := by
  induction w with
  | zero => intro n; rfl
  | succ w ih => intro n; simp [numB, ih]
theorem numB_snoc (w : Nat) : ∀ n, numB n (w + 1) = numB n w ++ [UInt8.ofNat (n / 256 ^ w)] := by
  induction w with
  | zero => intro n; simp [numB]
  | succ w ih =>
    intro n
    show UInt8.ofNat n :: numB (n / 256) (w + 1) = UInt8.ofNat n :: (numB (n / 256) w) ++ _
    rw [ih, Nat.div_div_eq_div_mul, Nat.pow_succ, Nat.mul_comm 256]
    rfl
theorem num_numB (w : Nat) : ∀ n, num (numB n w) = n % 256 ^ w := by
  induction w with
  | zero => intro n; simp [numB, num, Nat.mod_one]
  | succ w ih =>
    intro n
    show num (UInt8.ofNat n :: numB (n / 256) w) = _
    rw [Crc.num_cons, ih, UInt8.toNat_ofNat']
    have e : (256 : Nat) ^ (w + 1) = 256 * 256 ^ w := by rw [Nat.pow_succ, Nat.mul_comm]
    rw [e, Nat.mod_mul]
    show n % 256 + n / 256 % 256 ^ w * 256 = _
    rw [Nat.mul_comm]
/-- Number's answer -/
def number (n : Nat) (w : Int) : List UInt8 := if 1 ≤ w ∧ w ≤ 8 then numB n w.toNat else []
/-- is there a word? -/
def wordIs (l : List UInt8) (at_ w : Int) : Prop := 1 ≤ w ∧ w ≤ 8 ∧ 0 ≤ at_ ∧ at_ + w ≤ l.length
instance (l : List UInt8) (at_ w : Int) : Decidable (wordIs l at_ w) := by unfold wordIs; exact inferInstance
/-- Word's number, where there is one -/
def word (l : List UInt8) (a w : Nat) : Nat := num ((l.drop a).take w)
theorem word_lt (l : List UInt8) (a w : Nat) : word l a w < 256 ^ w := by
  have h := Crc.num_lt ((l.drop a).take w)
  have e : (256 : Nat) ^ w = 2 ^ (8 * w) := by rw [show 256 = 2 ^ 8 from rfl, ← Nat.pow_mul]
  rw [e]
  refine Nat.lt_of_lt_of_le h (Nat.pow_le_pow_right (by omega) ?_)
  rw [List.length_take]
  omega
theorem word_step (l : List UInt8) (a k w : Nat) (h : a + k < l.length) : word l (a + k) (w + 1) = word l (a + k + 1) w * 256 + l[a + k].toNat := by
  unfold word
  rw [List.drop_eq_getElem_cons h, List.take_succ_cons, Crc.num_cons]
  omega
theorem word_zero (l : List UInt8) (a : Nat) : word l a 0 = 0 := by simp [word, num]
end Go.Proofs.Ytccdipcneabooaa.Sec
