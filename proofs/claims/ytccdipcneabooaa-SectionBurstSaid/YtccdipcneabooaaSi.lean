/- What Get makes of an image: plain. -/
import Derived.Test.YtccdipcneabooaaSg
namespace Go.Proofs.Ytccdipcneabooaa
open Sec (numB num_numB numB_length)

theorem ext_list (s : ByteArray) (a b : Nat) : (s.extract a b).data.toList = (s.data.toList.drop a).take (b - a) := by simp
theorem toList_length (s : ByteArray) : s.data.toList.length = s.size := rfl
/-- a section's bytes with a sum of one's own -/
def secR (x : Sect) (c : Nat) : List UInt8 := x.1.data.toList ++ (numB x.2.size 4 ++ (numB c 4 ++ x.2.data.toList))
theorem secR_crc (x : Sect) : secR x (Crc.more 0 x.2.data.toList) = secB x := rfl
theorem secR_length (x : Sect) (c : Nat) (h : x.1.size = 4) : (secR x c).length = 12 + x.2.size := by
  unfold secR
  simp only [List.length_append, numB_length, toList_length, h]
  omega
def rawTo (l : List Sect) (cs : Nat → Nat) : Nat → List UInt8
  | 0 => headB l.length
  | k + 1 => rawTo l cs k ++ secR (l.getD k (ByteArray.empty, ByteArray.empty)) (cs k)
theorem rawTo_succ (l : List Sect) (cs : Nat → Nat) (k : Nat) (h : k < l.length) : rawTo l cs (k + 1) = rawTo l cs k ++ secR l[k] (cs k) := by
  show rawTo l cs k ++ _ = _
  rw [List.getD, List.getElem?_eq_getElem h]
  rfl
/-- an image's own sums -/
def crcs (l : List Sect) (k : Nat) : Nat := Crc.more 0 (l.getD k (ByteArray.empty, ByteArray.empty)).2.data.toList
theorem rawTo_img (l : List Sect) : ∀ k, k ≤ l.length → rawTo l (crcs l) k = imgTo l k
  | 0, _ => by simp [rawTo, imgTo, secsTo]
  | k + 1, h => by
    rw [rawTo_succ l _ k h, imgTo_succ l k h, rawTo_img l k (by omega)]
    congr 1
    unfold crcs
    rw [List.getD, List.getElem?_eq_getElem (show k < l.length by omega)]
    rfl
theorem num4 {c : Nat} (h : c < 4294967296) : Crc.num (numB c 4) = c := by
  rw [num_numB]
  exact Nat.mod_eq_of_lt (by simpa using h)
theorem rawTo_prefix (l : List Sect) (cs : Nat → Nat) (k j : Nat) (h : k ≤ j) (hj : j ≤ l.length) : ∃ r, rawTo l cs j = rawTo l cs k ++ r := by
  induction j with
  | zero => exact ⟨[], by rw [show k = 0 by omega, List.append_nil]⟩
  | succ j ih =>
    by_cases e : k = j + 1
    · exact ⟨[], by rw [e, List.append_nil]⟩
    · obtain ⟨r, hr⟩ := ih (by omega) (by omega)
      exact ⟨r ++ secR l[j] (cs j), by rw [rawTo_succ l cs j hj, hr, List.append_assoc]⟩

/-- what stands at a place -/
theorem sec_here (s : ByteArray) (pre post : List UInt8) (x : Sect) (c : Nat) (hs : s.data.toList = pre ++ (secR x c ++ post)) (h4 : x.1.size = 4) (hx : x.2.size ≤ 16777216) (hc : c < 4294967296) :
    SecIs s pre.length ∧ secAt s pre.length = x ∧ w4 s (pre.length + 4) = x.2.size ∧ w4 s (pre.length + 8) = c := by
  have d0 : s.data.toList.drop pre.length = x.1.data.toList ++ (numB x.2.size 4 ++ (numB c 4 ++ (x.2.data.toList ++ post))) := by
    rw [hs, List.drop_left]
    simp [secR]
  have d4 : s.data.toList.drop (pre.length + 4) = numB x.2.size 4 ++ (numB c 4 ++ (x.2.data.toList ++ post)) := by
    rw [← List.drop_drop, d0]
    exact List.drop_left' h4
  have d8 : s.data.toList.drop (pre.length + 8) = numB c 4 ++ (x.2.data.toList ++ post) := by
    rw [show pre.length + 8 = pre.length + 4 + 4 by omega, ← List.drop_drop, d4]
    exact List.drop_left' (numB_length 4 _)
  have d12 : s.data.toList.drop (pre.length + 12) = x.2.data.toList ++ post := by
    rw [show pre.length + 12 = pre.length + 8 + 4 by omega, ← List.drop_drop, d8]
    exact List.drop_left' (numB_length 4 _)
  have k1 : w4 s (pre.length + 4) = x.2.size := by
    unfold w4 Sec.word
    rw [d4, List.take_left' (numB_length 4 _)]
    exact num4 (by omega)
  have k2 : w4 s (pre.length + 8) = c := by
    unfold w4 Sec.word
    rw [d8, List.take_left' (numB_length 4 _)]
    exact num4 hc
  have hz : s.size = pre.length + (12 + x.2.size + post.length) := by
    have := congrArg List.length hs
    rw [List.length_append, List.length_append, secR_length x c h4] at this
    exact this
  refine ⟨⟨by omega, by omega, by omega⟩, ?_, k1, k2⟩
  unfold secAt
  rw [k1]
  refine Prod.ext (bytes_ext0 ?_) (bytes_ext0 ?_)
  · rw [ext_list, d0, show pre.length + 4 - pre.length = 4 by omega]
    exact List.take_left' h4
  · rw [ext_list, d12, show pre.length + 12 + x.2.size - (pre.length + 12) = x.2.size by omega]
    exact List.take_left' rfl

/-- are the first k sums the sections' own? -/
def SumsTo (l : List Sect) (cs : Nat → Nat) (k : Nat) : Bool := (List.range k).all fun j => decide (crcs l j = cs j)
theorem SumsTo_succ (l : List Sect) (cs : Nat → Nat) (k : Nat) : SumsTo l cs (k + 1) = (SumsTo l cs k && decide (crcs l k = cs k)) := by
  unfold SumsTo
  rw [List.range_succ, List.all_append]
  simp

/-- Get's rounds over sections with sums of one's own, and more behind -/
theorem stG_raw (s : ByteArray) (l : List Sect) (cs : Nat → Nat) (post : List UInt8) (hs : s.data.toList = rawTo l cs l.length ++ post) (ht : TagsOk l) (hb : ¬ BigTo l l.length) (hc : ∀ j, j < l.length → cs j < 4294967296) :
    ∀ k, k ≤ l.length → stG s k = some (l.take k, SumsTo l cs k, (rawTo l cs k).length) := by
  intro k hk
  induction k with
  | zero => simp [stG, SumsTo, rawTo, headB_length]
  | succ k ih =>
    obtain ⟨r, hr⟩ := rawTo_prefix l cs (k + 1) l.length hk (Nat.le_refl _)
    have hs' : s.data.toList = rawTo l cs k ++ (secR l[k] (cs k) ++ (r ++ post)) := by
      rw [hs, hr, rawTo_succ l cs k hk]
      simp
    have h4 := (ht.1 k hk).1
    rw [tagAt_eq l k hk] at h4
    have hx : l[k].2.size ≤ 16777216 := by
      rcases Nat.lt_or_ge 16777216 l[k].2.size with h | h
      · exact absurd ⟨k, hk, hk, h⟩ hb
      · exact h
    obtain ⟨f1, f2, f3, f4⟩ := sec_here s _ _ _ _ hs' h4 hx (hc k hk)
    rw [stG_succ (ih (by omega))]
    unfold stepG
    simp only
    rw [if_pos f1, f2, f3, f4]
    congr 1
    refine Prod.ext ?_ (Prod.ext ?_ ?_)
    · simp [List.take_append_getElem hk]
    · simp only [SumsTo_succ]
      congr 1
      unfold crcs
      rw [List.getD, List.getElem?_eq_getElem (show k < l.length by omega)]
      rfl
    · simp only [rawTo_succ l cs k hk, List.length_append, secR_length _ _ h4]
      omega

theorem head_raw (s : ByteArray) (l : List Sect) (post : List UInt8) (hs : s.data.toList = headB l.length ++ post) (hl : l.length ≤ 16) : HeadIs s ∧ w4 s 8 = l.length := by
  have hz : s.size = 12 + post.length := by
    have := congrArg List.length hs
    rw [List.length_append, headB_length] at this
    exact this
  have d8 : s.data.toList.drop 8 = numB l.length 4 ++ post := by
    rw [hs]
    unfold headB
    rw [← List.append_assoc [76, 79, 70, 84], List.append_assoc]
    exact List.drop_left' (by simp [numB_length])
  have k : w4 s 8 = l.length := by
    unfold w4 Sec.word
    rw [d8, List.take_left' (numB_length 4 _)]
    exact num4 (by omega)
  refine ⟨⟨by omega, bytes_ext0 ?_, by omega⟩, k⟩
  rw [ext_list, hs, str_append]
  unfold headB
  rw [← List.append_assoc [76, 79, 70, 84], List.append_assoc, List.drop_zero]
  exact List.take_left' (by simp [numB_length])

theorem rawTo_head (l : List Sect) (cs : Nat → Nat) : ∃ r, rawTo l cs l.length = headB l.length ++ r := rawTo_prefix l cs 0 l.length (Nat.zero_le _) (Nat.le_refl _)

/-- Get of an image whose sums are its sections' own or not, with no byte behind -/
theorem getB_raw (s : ByteArray) (l : List Sect) (cs : Nat → Nat) (hs : s.data.toList = rawTo l cs l.length) (ht : TagsOk l) (hb : ¬ BigTo l l.length) (hc : ∀ j, j < l.length → cs j < 4294967296) :
    getB s = if SumsTo l cs l.length then (l, 0) else ([], 9) := by
  obtain ⟨r, hr⟩ := rawTo_head l cs
  obtain ⟨hh, hw⟩ := head_raw s l r (hs.trans hr) ht.2
  have hst := stG_raw s l cs [] (by rw [hs, List.append_nil]) ht hb hc l.length (Nat.le_refl _)
  rw [← hw] at hst
  have hz : (rawTo l cs l.length).length = s.size := by rw [← hs]; rfl
  rw [hw, List.take_length, hz] at hst
  rw [← hw] at hst
  by_cases h : SumsTo l cs l.length = true
  · rw [if_pos h]
    exact getB_ok hh hst rfl ht (by show SumsTo l cs (w4 s 8) = true; rw [hw]; exact h)
  · rw [if_neg h]
    exact getB_sum hh hst rfl ht (by show SumsTo l cs (w4 s 8) = false; rw [hw]; simpa using h)
theorem SumsTo_own (l : List Sect) (k : Nat) : SumsTo l (crcs l) k = true := by simp [SumsTo]
theorem crcs_lt (l : List Sect) (k : Nat) : crcs l k < 4294967296 := Crc.more_lt _ (by decide)
/-- what is put is got back -/
theorem getB_img (s : ByteArray) (l : List Sect) (hs : s.data.toList = imgTo l l.length) (ht : TagsOk l) (hb : ¬ BigTo l l.length) : getB s = (l, 0) := by
  rw [getB_raw s l (crcs l) (by rw [rawTo_img l _ (Nat.le_refl _)]; exact hs) ht hb fun j _ => crcs_lt l j, SumsTo_own, if_pos rfl]
end Go.Proofs.Ytccdipcneabooaa
