/- An image that is cut short, or has bytes behind it: plain. -/
import Derived.Test.YtccdipcneabooaaSj
namespace Go.Proofs.Ytccdipcneabooaa

theorem img_head (l : List Sect) : ∃ r, imgTo l l.length = headB l.length ++ r := ⟨secsTo l l.length, rfl⟩
theorem getB_more (s : ByteArray) (l : List Sect) (post : List UInt8) (hs : s.data.toList = imgTo l l.length ++ post) (hp : post ≠ []) (ht : TagsOk l) (hb : ¬ BigTo l l.length) : getB s = ([], 8) := by
  have hst := stG_raw s l (crcs l) post (by rw [rawTo_img l _ (Nat.le_refl _)]; exact hs) ht hb (fun j _ => crcs_lt l j) l.length (Nat.le_refl _)
  rw [rawTo_img l _ (Nat.le_refl _)] at hst
  obtain ⟨r, hr⟩ := img_head l
  obtain ⟨_, hw⟩ := head_raw s l (r ++ post) (by rw [hs, hr, List.append_assoc]) ht.2
  have hz : s.size = (imgTo l l.length).length + post.length := by rw [← toList_length, hs, List.length_append]
  have hpl : 0 < post.length := List.length_pos_iff.2 hp
  rw [← hw] at hst
  refine getB_bad hst fun h => ?_
  have h1 := h.1
  simp only [hw] at h1
  omega

theorem w4_pre {s s' : ByteArray} {k : Nat} (hs : s'.data.toList = s.data.toList.take k) (hk : k ≤ s.size) (a : Nat) (h : a + 4 ≤ s'.size) : w4 s' a = w4 s a := by
  have hz : s'.size = k := by rw [← toList_length, hs, List.length_take, toList_length]; omega
  unfold w4 Sec.word
  rw [hs, List.drop_take, List.take_take, show min 4 (k - a) = 4 by omega]
theorem ext_pre {s s' : ByteArray} {k : Nat} (hs : s'.data.toList = s.data.toList.take k) (hk : k ≤ s.size) (a b : Nat) (h : b ≤ s'.size) : s'.extract a b = s.extract a b := by
  have hz : s'.size = k := by rw [← toList_length, hs, List.length_take, toList_length]; omega
  apply bytes_ext0
  rw [ext_list, ext_list, hs, List.drop_take, List.take_take, show min (b - a) (k - a) = b - a by omega]
theorem stG_pre {s s' : ByteArray} {k : Nat} (hs : s'.data.toList = s.data.toList.take k) (hk : k ≤ s.size) : ∀ (j : Nat) (g : GSt), stG s' j = some g → stG s j = some g
  | 0, _, h => h
  | j + 1, g, h => by
    have hz : s'.size = k := by rw [← toList_length, hs, List.length_take, toList_length]; omega
    cases h0 : stG s' j with
    | none => rw [stG_none h0 (Nat.le_succ j)] at h; cases h
    | some g0 =>
      rw [stG_succ h0] at h
      rw [stG_succ (stG_pre hs hk j g0 h0)]
      unfold stepG at h ⊢
      by_cases hi : SecIs s' g0.2.2
      · rw [if_pos hi] at h
        obtain ⟨i1, i2, i3⟩ := hi
        have e1 := w4_pre hs hk (g0.2.2 + 4) (by omega)
        have e2 := w4_pre hs hk (g0.2.2 + 8) (by omega)
        have e3 : secAt s' g0.2.2 = secAt s g0.2.2 := by
          unfold secAt
          rw [e1] at i3 ⊢
          rw [ext_pre hs hk _ _ (by omega), ext_pre hs hk _ _ (by omega)]
        rw [e1] at i2 i3
        rw [if_pos (show SecIs s g0.2.2 from ⟨by omega, i2, by omega⟩), ← e1, ← e2, ← e3]
        exact h
      · rw [if_neg hi] at h; cases h
theorem getB_cut (s s' : ByteArray) (k : Nat) (l : List Sect) (hs0 : s.data.toList = imgTo l l.length) (hs : s'.data.toList = s.data.toList.take k) (hk : k < s.size) (ht : TagsOk l) (hb : ¬ BigTo l l.length) : getB s' = ([], 8) := by
  have hz : s'.size = k := by rw [← toList_length, hs, List.length_take, toList_length]; omega
  by_cases hh : HeadIs s'
  · cases hst : stG s' (w4 s' 8) with
    | none => exact getB_none (Nat.le_refl _) hst
    | some g =>
      refine getB_bad hst fun h => ?_
      have h1 := stG_pre hs (by omega) _ _ hst
      rw [w4_pre hs (by omega) 8 hh.1] at h1
      have h2 := stG_raw s l (crcs l) [] (by rw [rawTo_img l _ (Nat.le_refl _), List.append_nil]; exact hs0) ht hb (fun j _ => crcs_lt l j) l.length (Nat.le_refl _)
      obtain ⟨r, hr⟩ := img_head l
      obtain ⟨_, hw⟩ := head_raw s l r (by rw [hs0, hr]) ht.2
      rw [hw, h2] at h1
      have h3 : (rawTo l (crcs l) l.length).length = g.2.2 := by
        injection h1 with h1
        rw [← h1]
      rw [rawTo_img l _ (Nat.le_refl _), ← hs0, toList_length] at h3
      have := h.1
      omega
  · exact getB_head hh
end Go.Proofs.Ytccdipcneabooaa
