/- Images of sections: plain. -/
import Derived.Test.YtccdipcneabooaaSr
namespace Go.Proofs.Ytccdipcneabooaa

/-- a section's bytes in an image -/
def secB (x : Sect) : List UInt8 := x.1.data.toList ++ (Sec.numB x.2.size 4 ++ (Sec.numB (Crc.more 0 x.2.data.toList) 4 ++ x.2.data.toList))
/-- an image's head -/
def headB (n : Nat) : List UInt8 := [76, 79, 70, 84] ++ (Sec.numB 1 4 ++ Sec.numB n 4)
def secsTo (l : List Sect) : Nat → List UInt8
  | 0 => []
  | k + 1 => secsTo l k ++ secB (l.getD k (ByteArray.empty, ByteArray.empty))
theorem secsTo_succ (l : List Sect) (k : Nat) (h : k < l.length) : secsTo l (k + 1) = secsTo l k ++ secB l[k] := by
  show secsTo l k ++ _ = _
  rw [List.getD, List.getElem?_eq_getElem h]
  rfl
/-- the image of the first k sections, of a head of n -/
def imgTo (l : List Sect) (k : Nat) : List UInt8 := headB l.length ++ secsTo l k
theorem imgTo_succ (l : List Sect) (k : Nat) (h : k < l.length) : imgTo l (k + 1) = imgTo l k ++ secB l[k] := by
  unfold imgTo
  rw [secsTo_succ l k h, List.append_assoc]
/-- is any section's bytes too many? -/
def BigTo (l : List Sect) (k : Nat) : Prop := ∃ i, ∃ h : i < l.length, i < k ∧ 16777216 < l[i].2.size
open Classical in
/-- Put's answer -/
noncomputable def putB (l : List Sect) : List UInt8 × Nat := if TagsOk l then (if BigTo l l.length then ([], 4) else (imgTo l l.length, 0)) else ([], 2)
theorem putB_tags {l : List Sect} (h : ¬ TagsOk l) : putB l = ([], 2) := by unfold putB; rw [if_neg h]
theorem putB_big {l : List Sect} (h : TagsOk l) (hb : BigTo l l.length) : putB l = ([], 4) := by unfold putB; rw [if_pos h, if_pos hb]
theorem putB_ok {l : List Sect} (h : TagsOk l) (hb : ¬ BigTo l l.length) : putB l = (imgTo l l.length, 0) := by unfold putB; rw [if_pos h, if_neg hb]
theorem secB_length (x : Sect) : (secB x).length = x.1.size + 8 + x.2.size := by
  unfold secB
  simp only [List.length_append, Sec.numB_length, Array.length_toList, ByteArray.size_data]
  omega
theorem headB_length (n : Nat) : (headB n).length = 12 := by simp [headB, Sec.numB_length]
theorem BigTo.not_succ {l : List Sect} {k : Nat} (h : k < l.length) (hn : ¬ BigTo l k) (hx : ¬ 16777216 < l[k].2.size) : ¬ BigTo l (k + 1) := by
  rintro ⟨i, hi, hik, hb⟩
  by_cases e : i = k
  · subst e; exact hx hb
  · exact hn ⟨i, hi, by omega, hb⟩
theorem BigTo.not_zero (l : List Sect) : ¬ BigTo l 0 := by rintro ⟨i, _, h, _⟩; omega
theorem secsTo_bound (l : List Sect) (ht : TagsOk l) (k : Nat) (hk : k ≤ l.length) (hb : ¬ BigTo l k) : (secsTo l k).length ≤ k * 16777228 := by
  induction k with
  | zero => exact Nat.le_refl _
  | succ k ih =>
    rw [secsTo_succ l k (by omega), List.length_append, secB_length]
    have h1 := (ht.1 k (by omega)).1
    rw [tagAt_eq l k (by omega)] at h1
    have h2 : l[k].2.size ≤ 16777216 := by
      rcases Nat.lt_or_ge 16777216 l[k].2.size with h | h
      · exact absurd ⟨k, by omega, by omega, h⟩ hb
      · exact h
    have h3 := ih (by omega) fun ⟨i, hi, hik, hx⟩ => hb ⟨i, hi, by omega, hx⟩
    rw [Nat.add_mul]
    omega
theorem imgTo_bound (l : List Sect) (ht : TagsOk l) (k : Nat) (hk : k ≤ l.length) (hb : ¬ BigTo l k) : (imgTo l k).length ≤ 268435660 := by
  unfold imgTo
  rw [List.length_append, headB_length]
  have := secsTo_bound l ht k hk hb
  have := ht.2
  have : k * 16777228 ≤ 16 * 16777228 := Nat.mul_le_mul_right _ (by omega)
  omega
theorem imgTo_ne (l : List Sect) (k : Nat) : imgTo l k ≠ [] := by
  intro e
  have := congrArg List.length e
  unfold imgTo at this
  rw [List.length_append, headB_length] at this
  simp at this
/-- a byte string of a list -/
theorem str_mk (s : ByteArray) : (⟨s.data.toList.toArray⟩ : ByteArray) = s := by cases s; simp
theorem str_append (a b : ByteArray) : (a ++ b).data.toList = a.data.toList ++ b.data.toList := by simp
end Go.Proofs.Ytccdipcneabooaa
