/- What is got is what is put: plain. -/
import Derived.Test.YtccdipcneabooaaSi
namespace Go.Proofs.Ytccdipcneabooaa
open Sec (numB num_numB numB_length)

theorem numB_num : ∀ l : List UInt8, numB (Crc.num l) l.length = l
  | [] => rfl
  | b :: l => by
    rw [Crc.num_cons]
    have hb : b.toNat < 256 := UInt8.toNat_lt _
    show UInt8.ofNat _ :: numB (_ / 256) l.length = b :: l
    congr 1
    · apply UInt8.toNat_inj.1
      rw [UInt8.toNat_ofNat']
      omega
    · rw [show (b.toNat + Crc.num l * 256) / 256 = Crc.num l by omega]
      exact numB_num l
theorem numB_w4 (s : ByteArray) (a : Nat) (h : a + 4 ≤ s.size) : numB (w4 s a) 4 = (s.data.toList.drop a).take 4 := by
  have hl : ((s.data.toList.drop a).take 4).length = 4 := by
    rw [List.length_take, List.length_drop, toList_length]
    omega
  have := numB_num ((s.data.toList.drop a).take 4)
  rw [hl] at this
  exact this
theorem secsTo_append (l m : List Sect) : ∀ k, k ≤ l.length → secsTo (l ++ m) k = secsTo l k
  | 0, _ => rfl
  | k + 1, h => by
    rw [secsTo_succ _ _ (by rw [List.length_append]; omega), secsTo_succ l k h, secsTo_append l m k (by omega), List.getElem_append_left h]
theorem head_take (s : ByteArray) (h : HeadIs s) : s.data.toList.take 12 = headB (w4 s 8) := by
  have h8 : s.data.toList.take 8 = [76, 79, 70, 84] ++ numB 1 4 := by
    have := congrArg (fun b : ByteArray => b.data.toList) h.2.1
    simp only [ext_list, str_append, List.drop_zero] at this
    exact this
  unfold headB
  rw [← List.append_assoc, ← h8, numB_w4 s 8 h.1, show 12 = 8 + 4 from rfl, List.take_add]
theorem sec_take (s : ByteArray) (a : Nat) (h : SecIs s a) (hc : Crc.more 0 (secAt s a).2.data.toList = w4 s (a + 8)) : (s.data.toList.drop a).take (12 + w4 s (a + 4)) = secB (secAt s a) := by
  obtain ⟨h1, h2, h3⟩ := h
  have e1 : (secAt s a).1.data.toList = (s.data.toList.drop a).take 4 := by
    unfold secAt
    simp only [ext_list]
    congr 1
    omega
  have e2 : (secAt s a).2.data.toList = (s.data.toList.drop (a + 12)).take (w4 s (a + 4)) := by
    unfold secAt
    simp only [ext_list]
    congr 1
    omega
  have e3 : (secAt s a).2.size = w4 s (a + 4) := by
    rw [← toList_length, e2, List.length_take, List.length_drop, toList_length]
    omega
  unfold secB
  rw [hc, e1, e2, e3, numB_w4 s (a + 4) (by omega), numB_w4 s (a + 8) (by omega)]
  rw [show 12 + w4 s (a + 4) = 4 + (4 + (4 + w4 s (a + 4))) by omega, List.take_add, List.drop_drop, List.take_add, List.drop_drop, List.take_add, List.drop_drop]

theorem stG_bytes (s : ByteArray) (hh : HeadIs s) : ∀ (k : Nat) (out : List Sect) (a : Nat), stG s k = some (out, true, a) → s.data.toList.take a = headB (w4 s 8) ++ secsTo out k
  | 0, out, a, h => by
    simp only [stG, Option.some.injEq, Prod.mk.injEq] at h
    obtain ⟨rfl, _, rfl⟩ := h
    rw [head_take s hh]
    simp [secsTo]
  | k + 1, out, a, h => by
    cases h0 : stG s k with
    | none => rw [stG_none h0 (Nat.le_succ k)] at h; cases h
    | some g =>
      obtain ⟨o0, r0, a0⟩ := g
      rw [stG_succ h0] at h
      unfold stepG at h
      simp only at h
      by_cases hs : SecIs s a0
      · rw [if_pos hs] at h
        simp only [Option.some.injEq, Prod.mk.injEq, Bool.and_eq_true, decide_eq_true_eq] at h
        obtain ⟨rfl, ⟨rfl, hc⟩, rfl⟩ := h
        have ih := stG_bytes s hh k o0 a0 h0
        have hk := (stG_facts h0).1
        simp only at hk
        rw [Nat.add_assoc, List.take_add, ih, sec_take s a0 hs hc, secsTo_succ _ k (by rw [List.length_append]; simp; omega), secsTo_append o0 _ k (by omega), List.append_assoc]
        congr 3
        rw [List.getElem_append_right (by omega)]
        simp [hk]
      · rw [if_neg hs] at h; cases h

/-- what Get answers: nothing, or the sections -/
theorem getB_cases (s : ByteArray) : ((getB s).1 = [] ∧ (getB s).2 ≠ 0) ∨ (HeadIs s ∧ (getB s).2 = 0 ∧ stG s (w4 s 8) = some ((getB s).1, true, s.size) ∧ TagsOk (getB s).1) := by
  by_cases hh : HeadIs s
  · cases hst : stG s (w4 s 8) with
    | none => exact Or.inl (by rw [getB_none (Nat.le_refl _) hst]; exact ⟨rfl, by decide⟩)
    | some g =>
      by_cases hb : g.2.2 = s.size ∧ TagsOk g.1
      · by_cases hr : g.2.1 = true
        · refine Or.inr ⟨hh, ?_⟩
          rw [getB_ok hh hst hb.1 hb.2 hr]
          obtain ⟨o, r, a⟩ := g
          simp only at hb hr
          subst hr
          rw [hb.1]
          exact ⟨rfl, rfl, hb.2⟩
        · exact Or.inl (by rw [getB_sum hh hst hb.1 hb.2 (by simpa using hr)]; exact ⟨rfl, by decide⟩)
      · exact Or.inl (by rw [getB_bad hst hb]; exact ⟨rfl, by decide⟩)
  · exact Or.inl (by rw [getB_head hh]; exact ⟨rfl, by decide⟩)
theorem getB_small (s : ByteArray) : (getB s).1.length ≤ 16 ∧ ∀ x ∈ (getB s).1, x.1.size = 4 ∧ x.2.size ≤ 16777216 := by
  rcases getB_cases s with ⟨h, _⟩ | ⟨hh, _, hst, _⟩
  · rw [h]
    exact ⟨by decide, fun x hx => absurd hx (by simp)⟩
  · have hf := stG_facts hst
    simp only at hf
    exact ⟨by rw [hf.1]; exact hh.2.2, hf.2.2.2⟩
/-- what is got is put so -/
theorem put_getB (s : ByteArray) (h : (getB s).2 = 0) : putB (getB s).1 = (s.data.toList, 0) := by
  rcases getB_cases s with ⟨_, hn⟩ | ⟨hh, _, hst, ht⟩
  · exact absurd h hn
  · have hf := stG_facts hst
    simp only at hf
    have hb : ¬ BigTo (getB s).1 (getB s).1.length := by
      rintro ⟨i, hi, _, hx⟩
      have := (hf.2.2.2 _ (List.getElem_mem hi)).2
      omega
    rw [putB_ok ht hb]
    have := stG_bytes s hh _ _ _ hst
    rw [List.take_of_length_le (by rw [toList_length]; exact Nat.le_refl _)] at this
    unfold imgTo
    rw [hf.1, this]
end Go.Proofs.Ytccdipcneabooaa
