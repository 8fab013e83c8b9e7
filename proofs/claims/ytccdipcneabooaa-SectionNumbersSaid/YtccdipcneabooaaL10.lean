/- SectionNumbers: the walk. -/
import Derived.Test.YtccdipcneabooaaL9
namespace Go.Proofs.Ytccdipcneabooaa
open Go.RowKit Go.BigFrame

theorem number_bad {n : Nat} {x : Int} (h : ¬ (1 ≤ x ∧ x ≤ 8)) : Sec.number n x = [] := if_neg h
theorem number_good {n x : Nat} (h : 1 ≤ x ∧ x ≤ 8) : Sec.number n (x : Int) = Sec.numB n x := by
  unfold Sec.number
  rw [if_pos (by omega)]
  rfl

set_option maxHeartbeats 800000 in
theorem sectionNumbers_bad (a b : Nat) (x y : Int) (w : World) (h0 : a < 2 ^ 64) (h1 : b < 2 ^ 64) (h : ¬ (1 ≤ x ∧ x ≤ 8 ∧ 1 ≤ y ∧ y ≤ 8)) :
    Calls Try.prog 14 #[.int .u64 a, .int .u64 b, .int .i64 x, .int .i64 y] w fun e w' => e = .returned (.bool true) ∧ Below w.heap.size w w' := by
  have k1 := fun W => number_any a x W (by simpa using h0)
  have k2 := fun W => number_any b y W (by simpa using h1)
  have hx : (x < 1 ∧ Sec.number a x = []) ∨ (1 ≤ x ∧ 8 < x ∧ Sec.number a x = []) ∨ (1 ≤ x ∧ x ≤ 8) := by
    by_cases hc : 1 ≤ x ∧ x ≤ 8
    · exact Or.inr (Or.inr hc)
    · by_cases hd : x < 1
      · exact Or.inl ⟨hd, number_bad hc⟩
      · exact Or.inr (Or.inl ⟨by omega, by omega, number_bad hc⟩)
  have hy : (y < 1 ∧ Sec.number b y = []) ∨ (1 ≤ y ∧ 8 < y ∧ Sec.number b y = []) ∨ (1 ≤ y ∧ y ≤ 8) := by
    by_cases hc : 1 ≤ y ∧ y ≤ 8
    · exact Or.inr (Or.inr hc)
    · by_cases hd : y < 1
      · exact Or.inl ⟨hd, number_bad hc⟩
      · exact Or.inr (Or.inl ⟨by omega, by omega, number_bad hc⟩)
  rcases hx with ⟨hx1, hxn⟩ | ⟨hx1, hx2, hxn⟩ | ⟨hx1, hx2⟩
  all_goals rcases hy with ⟨hy1, hyn⟩ | ⟨hy1, hy2, hyn⟩ | ⟨hy1, hy2⟩
  all_goals try (exfalso; omega)
  all_goals
    clear h
    try rw [hxn] at k1
    try rw [hyn] at k2
    try clear hxn
    try clear hyn
    generalize Sec.number a x = nx at *
    generalize Sec.number b y = ny at *
    have KK := Lib.hid (And.intro k1 k2)
    clear k1 k2
    go_enter Try.func14, Try.ntmps14
    go_wp2_with fail
    refine (KK.out.1 w).mono ?_
    rintro e w1 ⟨rfl, hb1⟩
    go_wp2_with fail
    refine (KK.out.2 _).mono ?_
    rintro e w2 ⟨rfl, hb2⟩
    have H2 := Lib.hid (hb1.trans (hb2.mono hb1.size))
    clear hb1 hb2
    go_wp2_with fail
    refine (awake26 _).mono ?_
    rintro e w4 ⟨rfl, hb4⟩
    have H4 := Lib.hid (H2.out.trans (hb4.mono H2.out.size))
    clear hb4
    go_wp2_with fail
    go_ret
    exact ⟨rfl, H4.out⟩

theorem mod_ops (n x : Nat) (h0 : n < 2 ^ 64) (h : 1 ≤ x ∧ x ≤ 8) : (8 ≤ x ∧ n % 256 ^ x = n) ∨ (x < 8 ∧ ∃ p q : Nat, n % 256 ^ x = q ∧ IntKind.u64.wrap (2 ^ (8 * x)) = (p : Int) ∧ ¬ (p : Int) = 0 ∧ (n : Int) % (p : Int) = (q : Int)) := by
  by_cases hx : x = 8
  · subst hx
    exact Or.inl ⟨Nat.le_refl _, Nat.mod_eq_of_lt (by simpa using h0)⟩
  · refine Or.inr ⟨by omega, 2 ^ (8 * x), n % 2 ^ (8 * x), ?_, ?_, ?_, ?_⟩
    · rw [show 256 = 2 ^ 8 from rfl, ← Nat.pow_mul]
    · have h1 : (2 : Nat) ^ (8 * x) ≤ 2 ^ 56 := Nat.pow_le_pow_right (by decide) (by omega)
      have h2 : ((2 : Int) ^ (8 * x)) = ((2 ^ (8 * x) : Nat) : Int) := by simp
      rw [h2]
      generalize (2 : Nat) ^ (8 * x) = p at *
      exact IntWalk.u64_in _ (by omega)
    · have h1 : 0 < (2 : Nat) ^ (8 * x) := Nat.two_pow_pos _
      generalize (2 : Nat) ^ (8 * x) = p at *
      omega
    · generalize (2 : Nat) ^ (8 * x) = p at *
      omega

set_option maxHeartbeats 800000 in
theorem sectionNumbers_good (a b x y : Nat) (w : World) (h0 : a < 2 ^ 64) (h1 : b < 2 ^ 64) (hx : 1 ≤ x ∧ x ≤ 8) (hy : 1 ≤ y ∧ y ≤ 8) :
    Calls Try.prog 14 #[.int .u64 a, .int .u64 b, .int .i64 x, .int .i64 y] w fun e w' => e = .returned (.bool true) ∧ Below w.heap.size w w' := by
  have k1 := fun W => number_in a x W (by simpa using h0) hx.1 hx.2
  have k2 := fun W => number_in b y W (by simpa using h1) hy.1 hy.2
  obtain ⟨s, hs⟩ : ∃ s : ByteArray, s = ⟨(Sec.numB a x).toArray⟩ := ⟨_, rfl⟩
  obtain ⟨t, ht⟩ : ∃ t : ByteArray, t = ⟨(Sec.numB b y).toArray⟩ := ⟨_, rfl⟩
  rw [← hs] at k1
  rw [← ht] at k2
  have hsl : s.data.toList = Sec.numB a x := by rw [hs]
  have htl : t.data.toList = Sec.numB b y := by rw [ht]
  have hsz : s.size = x := by rw [← Sec.numB_length x a, ← hsl]; rfl
  have htz : t.size = y := by rw [← Sec.numB_length y b, ← htl]; rfl
  have hst : (s ++ t).size = x + y := by rw [ByteArray.size_append, hsz, htz]
  have w1 := fun W => word_in (s ++ t) 0 x W hx.1 hx.2 (by omega) (by omega)
  have w2 := fun W => word_in (s ++ t) x y W hy.1 hy.2 (by omega) (by omega)
  have w3 := fun W => word_out (s ++ t) x ((y : Int) + 1) W (by omega) (by omega)
  have e1 : Sec.word (s ++ t).data.toList 0 x = a % 256 ^ x := by
    unfold Sec.word
    rw [List.drop_zero, str_append, List.take_left' hsz, hsl, Sec.num_numB]
  have e2 : Sec.word (s ++ t).data.toList x y = b % 256 ^ y := by
    unfold Sec.word
    rw [str_append, List.drop_left' hsz, List.take_of_length_le (by rw [show t.data.toList.length = y from htz]; exact Nat.le_refl _), htl, Sec.num_numB]
  rw [e1] at w1
  rw [e2] at w2
  have m1 := mod_ops a x h0 hx
  have m2 := mod_ops b y h1 hy
  have hxy : (s.size : Int) = x ∧ (t.size : Int) = y := by omega
  obtain ⟨hs1, hs2⟩ := hxy
  clear hsl htl e1 e2 hs ht hst
  obtain ⟨hx1, hx2⟩ := hx
  obtain ⟨hy1, hy2⟩ := hy
  have k5 := hsz
  have k6 := htz
  rcases m1 with ⟨hx8, e1⟩ | ⟨hx8, p1, q1, e1, hw1, hz1, hm1⟩
  all_goals rcases m2 with ⟨hy8, e2⟩ | ⟨hy8, p2, q2, e2, hw2, hz2, hm2⟩
  all_goals
    rw [e1] at w1
    rw [e2] at w2
    have KK := Lib.hid (And.intro k1 (And.intro k2 (And.intro w1 (And.intro w2 w3))))
    clear k1 k2 w1 w2 w3 e1 e2
    go_enter Try.func14, Try.ntmps14
    go_wp2_with fail
    refine (KK.out.1 w).mono ?_
    rintro e w1 ⟨rfl, hb1⟩
    go_wp2_with fail
    refine (KK.out.2.1 _).mono ?_
    rintro e w2 ⟨rfl, hb2⟩
    have H2 := Lib.hid (hb1.trans (hb2.mono hb1.size))
    clear hb1 hb2
    go_wp2_with fail
    refine (KK.out.2.2.1 _).mono ?_
    rintro e w3 ⟨rfl, rfl⟩
    go_wp2_with fail
    refine (KK.out.2.2.2.1 _).mono ?_
    rintro e w3 ⟨rfl, rfl⟩
    go_wp2_with fail
    refine (KK.out.2.2.2.2 _).mono ?_
    rintro e w3 ⟨rfl, rfl⟩
    go_wp2_with fail
    refine (awake26 _).mono ?_
    rintro e w4 ⟨rfl, hb4⟩
    have H4 := Lib.hid (H2.out.trans (hb4.mono H2.out.size))
    clear hb4
    go_wp2_with fail
    go_ret
    exact ⟨rfl, H4.out⟩

theorem sectionNumbers_walk (a b : Nat) (x y : Int) (w : World) (h0 : a < 2 ^ 64) (h1 : b < 2 ^ 64) (_ : -9223372036854775808 ≤ x ∧ x ≤ 9223372036854775807) (_ : -9223372036854775808 ≤ y ∧ y ≤ 9223372036854775807) :
    Calls Try.prog 14 #[.int .u64 a, .int .u64 b, .int .i64 x, .int .i64 y] w fun e w' => e = .returned (.bool true) ∧ Below w.heap.size w w' := by
  by_cases h : 1 ≤ x ∧ x ≤ 8 ∧ 1 ≤ y ∧ y ≤ 8
  · obtain ⟨i, rfl⟩ := Int.eq_ofNat_of_zero_le (show 0 ≤ x by omega)
    obtain ⟨j, rfl⟩ := Int.eq_ofNat_of_zero_le (show 0 ≤ y by omega)
    exact sectionNumbers_good a b i j w h0 h1 (by omega) (by omega)
  · exact sectionNumbers_bad a b x y w h0 h1 h
end Go.Proofs.Ytccdipcneabooaa
