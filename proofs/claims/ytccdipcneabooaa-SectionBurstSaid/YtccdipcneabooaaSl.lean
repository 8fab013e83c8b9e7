/- An image of which one section's bytes are changed by a burst: plain. -/
import Derived.Test.YtccdipcneabooaaSk
import Derived.Test.YtccdipcneabooaaCru
namespace Go.Proofs.Ytccdipcneabooaa
open Sec (numB num_numB numB_length)

/-- what stands ahead of a section's bytes -/
def hdR (x : Sect) (c : Nat) : List UInt8 := x.1.data.toList ++ (numB x.2.size 4 ++ numB c 4)
theorem secR_hd (x : Sect) (c : Nat) : secR x c = hdR x c ++ x.2.data.toList := by unfold secR hdR; simp
theorem hdR_length (x : Sect) (c : Nat) (h : x.1.size = 4) : (hdR x c).length = 12 := by
  unfold hdR
  simp only [List.length_append, numB_length, toList_length, h]
/-- where a section begins -/
def fromTo (l : List Sect) : Nat → Nat
  | 0 => 12
  | k + 1 => fromTo l k + 12 + (l.getD k (ByteArray.empty, ByteArray.empty)).2.size
theorem fromTo_succ (l : List Sect) (k : Nat) (h : k < l.length) : fromTo l (k + 1) = fromTo l k + 12 + l[k].2.size := by
  show fromTo l k + 12 + _ = _
  rw [List.getD, List.getElem?_eq_getElem h]
  rfl
theorem rawTo_length (l : List Sect) (cs : Nat → Nat) (ht : TagsOk l) : ∀ k, k ≤ l.length → (rawTo l cs k).length = fromTo l k
  | 0, _ => headB_length _
  | k + 1, h => by
    have h4 := (ht.1 k h).1
    rw [tagAt_eq l k h] at h4
    rw [rawTo_succ l cs k h, fromTo_succ l k h, List.length_append, rawTo_length l cs ht k (by omega), secR_length _ _ h4]
    omega
theorem rawTo_set_le (l : List Sect) (cs : Nat → Nat) (q : Nat) (x : Sect) : ∀ k, k ≤ q → q < l.length → rawTo (l.set q x) cs k = rawTo l cs k
  | 0, _, _ => by simp [rawTo]
  | k + 1, h, hq => by
    rw [rawTo_succ _ cs k (by simp; omega), rawTo_succ l cs k (by omega), rawTo_set_le l cs q x k (by omega) hq, List.getElem_set_ne (by omega)]
theorem rawTo_set (l : List Sect) (cs : Nat → Nat) (q : Nat) (hq : q < l.length) (j : Nat) (hj : q + 1 + j ≤ l.length) :
    ∃ r, rawTo l cs (q + 1 + j) = rawTo l cs q ++ (secR l[q] (cs q) ++ r) ∧ ∀ x : Sect, rawTo (l.set q x) cs (q + 1 + j) = rawTo l cs q ++ (secR x (cs q) ++ r) := by
  induction j with
  | zero =>
    refine ⟨[], ?_, fun x => ?_⟩
    · rw [Nat.add_zero, rawTo_succ l cs q hq, List.append_nil]
    · rw [Nat.add_zero, rawTo_succ _ cs q (by simpa using hq), rawTo_set_le l cs q x q (Nat.le_refl _) hq, List.append_nil]
      simp
  | succ j ih =>
    obtain ⟨r, h1, h2⟩ := ih (by omega)
    refine ⟨r ++ secR l[q + 1 + j] (cs (q + 1 + j)), ?_, fun x => ?_⟩
    · rw [← Nat.add_assoc, rawTo_succ l cs _ (by omega), h1]
      simp only [List.append_assoc]
    · rw [← Nat.add_assoc, rawTo_succ _ cs _ (by simp; omega), h2 x, List.getElem_set_ne (by omega)]
      simp only [List.append_assoc]
theorem tagAt_set (l : List Sect) (q : Nat) (d : ByteArray) (hq : q < l.length) (i : Nat) : tagAt (l.set q (l[q].1, d)) i = tagAt l i := by
  unfold tagAt
  by_cases e : q = i
  · subst e
    simp [List.getD, hq]
  · simp [List.getD, List.getElem?_set_ne e]
theorem TagsOk.set {l : List Sect} (h : TagsOk l) (q : Nat) (d : ByteArray) (hq : q < l.length) : TagsOk (l.set q (l[q].1, d)) := by
  refine ⟨fun i hi => ?_, by simpa using h.2⟩
  rw [List.length_set] at hi
  have := h.1 i hi
  simp only [tagAt_set l q d hq]
  exact this
theorem BigTo.set {l : List Sect} (h : ¬ BigTo l l.length) (q : Nat) (d : ByteArray) (hq : q < l.length) (hd : d.size = l[q].2.size) : ¬ BigTo (l.set q (l[q].1, d)) (l.set q (l[q].1, d)).length := by
  rintro ⟨i, hi, _, hb⟩
  have hi' : i < l.length := by simpa using hi
  refine h ⟨i, hi', hi', ?_⟩
  by_cases e : q = i
  · subst e
    simp only [List.getElem_set_self] at hb
    omega
  · rwa [List.getElem_set_ne e] at hb
/-- an image, of which a section's bytes are changed by a burst, is told to have another sum -/
theorem img_burst (l : List Sect) (q : Nat) (hq : q < l.length) (ht : TagsOk l) (hb : ¬ BigTo l l.length) :
    ∃ p r : List UInt8, imgTo l l.length = p ++ (l[q].2.data.toList ++ r) ∧ p.length = fromTo l q + 12 ∧
      ∀ (d : List UInt8) (s : ByteArray) (a u : Nat), u < 4294967296 → u ≠ 0 → Crc.Burst l[q].2.data.toList d a u 32 → s.data.toList = p ++ (d ++ r) → getB s = ([], 9) := by
  have h4 := (ht.1 q hq).1
  rw [tagAt_eq l q hq] at h4
  obtain ⟨j, hj⟩ : ∃ j, l.length = q + 1 + j := ⟨l.length - (q + 1), by omega⟩
  obtain ⟨r, h1, h2⟩ := rawTo_set l (crcs l) q hq j (by omega)
  refine ⟨rawTo l (crcs l) q ++ hdR l[q] (crcs l q), r, ?_, ?_, fun d s a u hu hu0 hbu hs => ?_⟩
  · rw [← rawTo_img l _ (Nat.le_refl _)]
    have e : rawTo l (crcs l) l.length = rawTo l (crcs l) (q + 1 + j) := by rw [← hj]
    rw [e, h1, secR_hd]
    simp only [List.append_assoc]
  · rw [List.length_append, rawTo_length l _ ht q (by omega), hdR_length _ _ h4]
  · have hdz : (⟨d.toArray⟩ : ByteArray).size = l[q].2.size := hbu.1
    have hh : hdR (l[q].1, (⟨d.toArray⟩ : ByteArray)) (crcs l q) = hdR l[q] (crcs l q) := by unfold hdR; simp only [hdz]
    have hlen : (l.set q (l[q].1, (⟨d.toArray⟩ : ByteArray))).length = l.length := List.length_set
    have hr : s.data.toList = rawTo (l.set q (l[q].1, (⟨d.toArray⟩ : ByteArray))) (crcs l) (l.set q (l[q].1, (⟨d.toArray⟩ : ByteArray))).length := by
      rw [hlen]
      have e : rawTo (l.set q (l[q].1, (⟨d.toArray⟩ : ByteArray))) (crcs l) l.length = rawTo (l.set q (l[q].1, (⟨d.toArray⟩ : ByteArray))) (crcs l) (q + 1 + j) := by rw [← hj]
      rw [e, h2, hs, secR_hd, hh]
      simp only [List.append_assoc]
    have hg := getB_raw s _ (crcs l) hr (ht.set q _ hq) (BigTo.set hb q _ hq hdz) fun j _ => crcs_lt l j
    rw [hlen] at hg
    rw [hg, if_neg]
    intro hS
    unfold SumsTo at hS
    rw [List.all_eq_true] at hS
    have := hS q (by simpa using hq)
    rw [decide_eq_true_eq] at this
    have e1 : crcs (l.set q (l[q].1, (⟨d.toArray⟩ : ByteArray))) q = Crc.more 0 d := by
      unfold crcs
      simp [List.getD, hq]
    have e2 : crcs l q = Crc.more 0 l[q].2.data.toList := by
      unfold crcs
      simp [List.getD, hq]
    rw [e1, e2] at this
    exact (hbu.sum hu hu0).1 this
theorem set_mid (p d r : List UInt8) (q : Nat) (hq : q < d.length) (v : UInt8) : (p ++ (d ++ r)).set (p.length + q) v = p ++ (d.set q v ++ r) := by
  rw [List.set_append_right _ _ (by omega), Nat.add_sub_cancel_left, List.set_append_left _ _ hq]
theorem get_mid (p d r : List UInt8) (q : Nat) (hq : q < d.length) (h : p.length + q < (p ++ (d ++ r)).length) : (p ++ (d ++ r))[p.length + q] = d[q] := by
  rw [List.getElem_append_right (by omega)]
  simp only [Nat.add_sub_cancel_left]
  rw [List.getElem_append_left hq]
end Go.Proofs.Ytccdipcneabooaa
