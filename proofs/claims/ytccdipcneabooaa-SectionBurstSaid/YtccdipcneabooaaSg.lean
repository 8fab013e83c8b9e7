/- What Get answers: plain. -/
import Derived.Test.YtccdipcneabooaaSp
namespace Go.Proofs.Ytccdipcneabooaa

/-- the number of four bytes at a place -/
def w4 (s : ByteArray) (a : Nat) : Nat := Sec.word s.data.toList a 4
theorem w4_lt (s : ByteArray) (a : Nat) : w4 s a < 4294967296 := Sec.word_lt s.data.toList a 4
/-- what the rounds of Get have made: sections, whether the sums are right, and the place -/
abbrev GSt := List Sect × Bool × Nat
/-- is there a section at a place? -/
def SecIs (s : ByteArray) (a : Nat) : Prop := a + 12 ≤ s.size ∧ w4 s (a + 4) ≤ 16777216 ∧ a + 12 + w4 s (a + 4) ≤ s.size
instance (s : ByteArray) (a : Nat) : Decidable (SecIs s a) := by unfold SecIs; exact inferInstance
/-- the section at a place -/
def secAt (s : ByteArray) (a : Nat) : Sect := (s.extract a (a + 4), s.extract (a + 12) (a + 12 + w4 s (a + 4)))
def stepG (s : ByteArray) (g : GSt) : Option GSt :=
  if SecIs s g.2.2 then some (g.1 ++ [secAt s g.2.2], g.2.1 && decide (Crc.more 0 (secAt s g.2.2).2.data.toList = w4 s (g.2.2 + 8)), g.2.2 + 12 + w4 s (g.2.2 + 4)) else none
def stG (s : ByteArray) : Nat → Option GSt
  | 0 => some ([], true, 12)
  | k + 1 => (stG s k).bind (stepG s)
theorem stG_succ {s : ByteArray} {k : Nat} {g : GSt} (h : stG s k = some g) : stG s (k + 1) = stepG s g := by
  show (stG s k).bind _ = _
  rw [h]; rfl
theorem stG_none {s : ByteArray} {j k : Nat} (h : stG s j = none) (hk : j ≤ k) : stG s k = none := by
  induction k with
  | zero => rw [show j = 0 by omega] at h; exact h
  | succ k ih =>
    by_cases e : j = k + 1
    · rw [← e]; exact h
    · show (stG s k).bind _ = _
      rw [ih (by omega)]; rfl
def HeadIs (s : ByteArray) : Prop := 12 ≤ s.size ∧ s.extract 0 8 = ⟨#[76, 79, 70, 84]⟩ ++ ⟨(Sec.numB 1 4).toArray⟩ ∧ w4 s 8 ≤ 16
open Classical in
/-- Get's answer -/
noncomputable def getB (s : ByteArray) : List Sect × Nat :=
  if HeadIs s then
    match stG s (w4 s 8) with
    | none => ([], 8)
    | some (out, right, a) => if a = s.size ∧ TagsOk out then (if right then (out, 0) else ([], 9)) else ([], 8)
  else ([], 8)
theorem getB_head {s : ByteArray} (h : ¬ HeadIs s) : getB s = ([], 8) := by unfold getB; rw [if_neg h]
theorem getB_none {s : ByteArray} {k : Nat} (hk : k ≤ w4 s 8) (h : stG s k = none) : getB s = ([], 8) := by
  unfold getB
  by_cases hh : HeadIs s
  · rw [if_pos hh, stG_none h hk]
  · rw [if_neg hh]
theorem getB_bad {s : ByteArray} {g : GSt} (h : stG s (w4 s 8) = some g) (hb : ¬ (g.2.2 = s.size ∧ TagsOk g.1)) : getB s = ([], 8) := by
  unfold getB
  by_cases hh : HeadIs s
  · rw [if_pos hh, h]
    exact if_neg hb
  · rw [if_neg hh]
theorem getB_sum {s : ByteArray} (hh : HeadIs s) {g : GSt} (h : stG s (w4 s 8) = some g) (h1 : g.2.2 = s.size) (h2 : TagsOk g.1) (h3 : g.2.1 = false) : getB s = ([], 9) := by
  obtain ⟨o, r, a⟩ := g
  simp only at h1 h2 h3
  subst h3
  unfold getB
  rw [if_pos hh, h]
  simp only
  rw [if_pos ⟨h1, h2⟩]
  rfl
theorem getB_ok {s : ByteArray} (hh : HeadIs s) {g : GSt} (h : stG s (w4 s 8) = some g) (h1 : g.2.2 = s.size) (h2 : TagsOk g.1) (h3 : g.2.1 = true) : getB s = (g.1, 0) := by
  obtain ⟨o, r, a⟩ := g
  simp only at h1 h2 h3
  subst h3
  unfold getB
  rw [if_pos hh, h]
  simp only
  rw [if_pos ⟨h1, h2⟩]
  rfl
/-- what holds of the rounds -/
theorem stG_facts {s : ByteArray} : ∀ {k : Nat} {g : GSt}, stG s k = some g → g.1.length = k ∧ (g.2.2 = 12 ∨ g.2.2 ≤ s.size) ∧ 12 ≤ g.2.2 ∧ ∀ x ∈ g.1, x.1.size = 4 ∧ x.2.size ≤ 16777216
  | 0, g, h => by
    injection h with h
    subst h
    exact ⟨rfl, Or.inl rfl, Nat.le_refl _, fun x hx => absurd hx (by simp)⟩
  | k + 1, g, h => by
    cases h0 : stG s k with
    | none => rw [stG_none h0 (Nat.le_succ k)] at h; cases h
    | some g0 =>
      rw [stG_succ h0] at h
      obtain ⟨f1, _, f3, f4⟩ := stG_facts h0
      unfold stepG at h
      by_cases hs : SecIs s g0.2.2
      · rw [if_pos hs] at h
        injection h with h
        subst h
        refine ⟨by simp [f1], Or.inr hs.2.2, by simp only; omega, fun x hx => ?_⟩
        simp only [List.mem_append, List.mem_singleton] at hx
        rcases hx with hx | rfl
        · exact f4 x hx
        · obtain ⟨s1, s2, s3⟩ := hs
          have e1 : (s.extract g0.2.2 (g0.2.2 + 4)).size = 4 := by rw [ByteArray.size_extract]; omega
          have e2 : (s.extract (g0.2.2 + 12) (g0.2.2 + 12 + w4 s (g0.2.2 + 4))).size ≤ 16777216 := by rw [ByteArray.size_extract]; omega
          exact ⟨e1, e2⟩
      · rw [if_neg hs] at h; cases h
end Go.Proofs.Ytccdipcneabooaa
