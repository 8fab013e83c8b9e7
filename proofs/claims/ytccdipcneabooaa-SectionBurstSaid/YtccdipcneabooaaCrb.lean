/- The way back: the table's top bytes are all there are, each once; steps taken back; four bytes that lead from a state to another. -/
import Derived.Test.YtccdipcneabooaaCrn
namespace Go.Proofs.Ytccdipcneabooaa.Crc

/-- the top byte of a table's cell -/
def top (i : Nat) : Nat := tab i / 16777216
/-- which cell has a top byte -/
def fr (j : Nat) : Nat := ((List.range 256).find? fun i => top i == j).getD 0
def allTop : Bool := (List.range 256).all fun i => top i < 256 && fr (top i) == i && top (fr i) == i && fr i < 256
theorem allTop_true : allTop = true := by decide +kernel
theorem top_facts (i : Nat) (h : i < 256) : top i < 256 ∧ fr (top i) = i ∧ top (fr i) = i ∧ fr i < 256 := by
  have := List.all_eq_true.1 allTop_true i (List.mem_range.2 h)
  simp only [Bool.and_eq_true, decide_eq_true_eq, beq_iff_eq] at this
  exact ⟨this.1.1.1, this.1.1.2, this.1.2, this.2⟩
theorem top_inj {i j : Nat} (hi : i < 256) (hj : j < 256) (h : top i = top j) : i = j := by
  rw [← (top_facts i hi).2.1, h, (top_facts j hj).2.1]

theorem tab_lt (i : Nat) (h : i < 256) : tab i < 4294967296 := steps_lt (by omega) 8
theorem xor_div (a b k : Nat) : (a ^^^ b) / 2 ^ k = (a / 2 ^ k) ^^^ (b / 2 ^ k) := by
  have := Nat.shiftRight_xor_distrib (a := a) (b := b) (i := k)
  simpa [Nat.shiftRight_eq_div_pow] using this
/-- what is left of a state behind the cell that has its top byte -/
def left (c : Nat) : Nat := c ^^^ tab (fr (c / 16777216))
theorem left_lt {c : Nat} (h : c < 4294967296) : left c < 16777216 := by
  have ht := top_facts (c / 16777216) (by omega)
  have hx : left c / 2 ^ 24 = 0 := by
    unfold left
    rw [xor_div]
    have e : tab (fr (c / 16777216)) / 2 ^ 24 = c / 2 ^ 24 := ht.2.2.1
    rw [e, Nat.xor_self]
  have := Nat.div_add_mod (left c) (2 ^ 24)
  rw [hx] at this
  have := Nat.mod_lt (left c) (show 2 ^ 24 > 0 by decide)
  omega
theorem left_back {c : Nat} : tab (fr (c / 16777216)) ^^^ left c = c := by
  unfold left
  rw [Nat.xor_comm c, ← Nat.xor_assoc, Nat.xor_self, Nat.zero_xor]
theorem or_low {x y : Nat} (hy : y < 256) : x * 256 ||| y = x * 256 + y := by
  have := Nat.two_pow_add_eq_or_of_lt (i := 8) hy x
  rw [Nat.mul_comm] at this
  exact this.symm

/-- one byte back -/
def bstep (c b : Nat) : Nat := left c * 256 + (fr (c / 16777216) ^^^ b)
theorem bstep_idx {c b : Nat} (h : c < 4294967296) (hb : b < 256) : fr (c / 16777216) ^^^ b < 256 :=
  Nat.xor_lt_two_pow (n := 8) (top_facts (c / 16777216) (by omega)).2.2.2 hb
theorem bstep_lt {c b : Nat} (h : c < 4294967296) (hb : b < 256) : bstep c b < 4294967296 := by
  have h1 := left_lt h
  have h2 := bstep_idx h hb
  unfold bstep
  omega
theorem upd_bstep {c b : Nat} (h : c < 4294967296) (hb : b < 256) : upd (bstep c b) b = c := by
  have h2 := bstep_idx h hb
  have e1 : bstep c b % 256 = fr (c / 16777216) ^^^ b := by unfold bstep; omega
  have e2 : bstep c b / 256 = left c := by unfold bstep; omega
  rw [upd_tab, e1, e2, Nat.xor_assoc, Nat.xor_self, Nat.xor_zero, left_back]
/-- back over bytes, the last one first -/
def back (c : Nat) (l : List UInt8) : Nat := l.foldr (fun b c => bstep c b.toNat) c
theorem back_lt (l : List UInt8) {c : Nat} (h : c < 4294967296) : back c l < 4294967296 := by
  induction l with
  | nil => exact h
  | cons b l ih => exact bstep_lt ih b.toNat_lt
theorem run_back (l : List UInt8) {c : Nat} (h : c < 4294967296) : run (back c l) l = c := by
  induction l with
  | nil => rfl
  | cons b l ih =>
    show run (upd (bstep (back c l) b.toNat) b.toNat) l = c
    rw [upd_bstep (back_lt l h) b.toNat_lt, ih]

/-- four cells that lead to a state: the state that is wanted ahead of the last j of them -/
def nb (need : Nat) : Nat → Nat
  | 0 => need
  | j + 1 => left (nb need j) * 256
def wy (need j : Nat) : Nat := fr (nb need j / 16777216)
theorem nb_lt {need : Nat} (h : need < 4294967296) (j : Nat) : nb need j < 4294967296 := by
  induction j with
  | zero => exact h
  | succ j ih =>
    have := left_lt ih
    show left _ * 256 < _
    omega
theorem wy_lt {need : Nat} (h : need < 4294967296) (j : Nat) : wy need j < 256 := (top_facts (nb need j / 16777216) (by have := nb_lt h j; omega)).2.2.2
theorem nb_step {need : Nat} (j : Nat) : nb need j = tab (wy need j) ^^^ (nb need (j + 1) / 256) := by
  show _ = tab (fr (nb need j / 16777216)) ^^^ (left (nb need j) * 256 / 256)
  rw [Nat.mul_div_cancel _ (by decide), left_back]
/-- the states on the way there, from whatever state -/
def hv (need have_ : Nat) : Nat → Nat
  | 0 => have_
  | k + 1 => tab (wy need (3 - k)) ^^^ (hv need have_ k / 256)
theorem hv_lt {need h0 : Nat} (h : need < 4294967296) (hh : h0 < 4294967296) (k : Nat) : hv need h0 k < 4294967296 := by
  induction k with
  | zero => exact hh
  | succ k ih => exact xor_lt (tab_lt _ (wy_lt h _)) (by omega)
/-- the byte that is laid at the k-th place -/
def pb (need h0 k : Nat) : Nat := wy need (3 - k) ^^^ (hv need h0 k % 256)
theorem pb_lt {need h0 : Nat} (h : need < 4294967296) (k : Nat) : pb need h0 k < 256 := Nat.xor_lt_two_pow (n := 8) (wy_lt h _) (by omega)
theorem upd_pb {need h0 : Nat} (k : Nat) : upd (hv need h0 k) (pb need h0 k) = hv need h0 (k + 1) := by
  rw [upd_tab]
  show tab ((hv need h0 k % 256) ^^^ (wy need (3 - k) ^^^ (hv need h0 k % 256))) ^^^ _ = tab (wy need (3 - k)) ^^^ _
  rw [Nat.xor_comm (wy need (3 - k)), ← Nat.xor_assoc, Nat.xor_self, Nat.zero_xor]
theorem hv_diff {need h0 : Nat} (k : Nat) (hk : k < 4) : hv need h0 (k + 1) ^^^ nb need (3 - k) = (hv need h0 k ^^^ nb need (4 - k)) / 256 := by
  rw [nb_step, show 3 - k + 1 = 4 - k by omega]
  show (tab (wy need (3 - k)) ^^^ (hv need h0 k / 256)) ^^^ _ = _
  rw [xor_xor_xor, Nat.xor_self, Nat.zero_xor, show (256 : Nat) = 2 ^ 8 from rfl, xor_div]
theorem hv_four {need h0 : Nat} (h : need < 4294967296) (hh : h0 < 4294967296) : hv need h0 4 = need := by
  have e1 := hv_diff (need := need) (h0 := h0) 0 (by omega)
  have e2 := hv_diff (need := need) (h0 := h0) 1 (by omega)
  have e3 := hv_diff (need := need) (h0 := h0) 2 (by omega)
  have e4 := hv_diff (need := need) (h0 := h0) 3 (by omega)
  have hx : h0 ^^^ nb need 4 < 4294967296 := xor_lt hh (nb_lt h 4)
  have e0 : hv need h0 0 = h0 := rfl
  simp only [Nat.zero_add, Nat.sub_zero, Nat.reduceAdd, Nat.reduceSub] at e1 e2 e3 e4
  rw [e0] at e1
  rw [e1] at e2
  rw [e2] at e3
  rw [e3] at e4
  refine xor_eq_zero ?_
  have : nb need 0 = need := rfl
  rw [this] at e4
  rw [e4]
  omega
/-- the four bytes -/
def pbL (need h0 : Nat) : List UInt8 := [UInt8.ofNat (pb need h0 0), UInt8.ofNat (pb need h0 1), UInt8.ofNat (pb need h0 2), UInt8.ofNat (pb need h0 3)]
theorem run_pbL {need h0 : Nat} (h : need < 4294967296) (hh : h0 < 4294967296) : run h0 (pbL need h0) = need := by
  have e : ∀ k, (UInt8.ofNat (pb need h0 k)).toNat = pb need h0 k := fun k => by
    rw [UInt8.toNat_ofNat']; exact Nat.mod_eq_of_lt (pb_lt h k)
  show upd (upd (upd (upd h0 _) _) _) _ = need
  rw [e, e, e, e]
  have e0 : h0 = hv need h0 0 := rfl
  rw [show upd h0 (pb need h0 0) = hv need h0 1 from upd_pb 0, upd_pb 1, upd_pb 2, upd_pb 3, hv_four h hh]
/-- a text with four bytes at a place, so that its sum is any -/
def patched (l : List UInt8) (at_ want : Nat) : List UInt8 :=
  l.take at_ ++ (pbL (back (inv want) (l.drop (at_ + 4))) (run (inv 0) (l.take at_)) ++ l.drop (at_ + 4))
theorem more_patched (l : List UInt8) (at_ want : Nat) (hw : want < 4294967296) : more 0 (patched l at_ want) = want := by
  have h1 : run (inv 0) (l.take at_) < 4294967296 := run_lt _ (inv_lt (by decide))
  have h2 : back (inv want) (l.drop (at_ + 4)) < 4294967296 := back_lt _ (inv_lt hw)
  unfold more patched
  rw [run_append, run_append, run_pbL h2 h1, run_back _ (inv_lt hw), inv_inv]
theorem patched_length (l : List UInt8) (at_ want : Nat) (h : at_ + 4 ≤ l.length) : (patched l at_ want).length = l.length := by
  simp [patched, pbL]; omega
theorem patched_take (l : List UInt8) (at_ want : Nat) (h : at_ + 4 ≤ l.length) : (patched l at_ want).take at_ = l.take at_ := by
  unfold patched
  rw [List.take_append_of_le_length (by simp; omega), List.take_of_length_le (by simp; omega)]
theorem patched_drop (l : List UInt8) (at_ want : Nat) (h : at_ + 4 ≤ l.length) : (patched l at_ want).drop (at_ + 4) = l.drop (at_ + 4) := by
  unfold patched
  rw [← List.append_assoc, List.drop_append_of_le_length (by simp [pbL]; omega), List.drop_of_length_le (by simp [pbL]; omega), List.nil_append]
/-- what it is, byte by byte -/
theorem patched_at (l : List UInt8) (at_ want j : Nat) (h : at_ + 4 ≤ l.length) (hj : j < l.length) :
    (patched l at_ want)[j]? = some (if at_ ≤ j ∧ j < at_ + 4 then UInt8.ofNat (pb (back (inv want) (l.drop (at_ + 4))) (run (inv 0) (l.take at_)) (j - at_)) else l[j]) := by
  unfold patched
  generalize back (inv want) (l.drop (at_ + 4)) = need
  generalize run (inv 0) (l.take at_) = h0
  have hl : (l.take at_).length = at_ := by simp; omega
  have hp : (pbL need h0).length = 4 := rfl
  by_cases h1 : j < at_
  · rw [if_neg (by omega), List.getElem?_append_left (by omega), List.getElem?_take_of_lt h1, List.getElem?_eq_getElem hj]
  · by_cases h2 : j < at_ + 4
    · rw [if_pos ⟨by omega, h2⟩, List.getElem?_append_right (by omega), hl, List.getElem?_append_left (by omega)]
      obtain h3 | h3 | h3 | h3 : j - at_ = 0 ∨ j - at_ = 1 ∨ j - at_ = 2 ∨ j - at_ = 3 := by omega
      all_goals rw [h3]; rfl
    · rw [if_neg (by omega), List.getElem?_append_right (by omega), hl, List.getElem?_append_right (by omega), hp, List.getElem?_drop, show at_ + 4 + (j - at_ - 4) = j by omega, List.getElem?_eq_getElem hj]
end Go.Proofs.Ytccdipcneabooaa.Crc
