/- SectionGet, SectionWord: the walks. -/
import Derived.Test.YtccdipcneabooaaWc
namespace Go.Proofs.Ytccdipcneabooaa
open Go.RowKit Go.BigFrame

set_option maxHeartbeats 400000 in
theorem sectionGet_walk (s : ByteArray) (w : World) (h1 : s.size ≤ maxLen) :
    Calls Try.prog 9 #[.string s] w fun e w' => e = .returned (.bool true) ∧ Below w.heap.size w w' := by
  unfold maxLen at h1
  by_cases hc : s.size ≤ 5000
  · have hl : (getB s).1.length ≤ 4611686018427387904 := by
      have hst : (getB s).1 = [] ∨ ∃ g, stG s (w4 s 8) = some g ∧ (getB s).1 = g.1 ∧ w4 s 8 ≤ 16 := by
        by_cases hh : HeadIs s
        · cases hst : stG s (w4 s 8) with
          | none => exact Or.inl (by rw [getB_none (Nat.le_refl _) hst])
          | some g =>
            by_cases hb : g.2.2 = s.size ∧ TagsOk g.1
            · by_cases hr : g.2.1 = true
              · exact Or.inr ⟨g, rfl, by rw [getB_ok hh hst hb.1 hb.2 hr], hh.2.2⟩
              · exact Or.inl (by rw [getB_sum hh hst hb.1 hb.2 (by simpa using hr)])
            · exact Or.inl (by rw [getB_bad hst hb])
        · exact Or.inl (by rw [getB_head hh])
      rcases hst with h | ⟨g, hg, h, h16⟩
      · rw [h]; decide
      · rw [h, (stG_facts hg).1]; omega
    have k1 := fun W => get_any s W (by omega)
    have k2 := fun W => refget_any s W (by omega)
    generalize getB s = g at *
    obtain ⟨l, n⟩ := g
    simp only at hl k1 k2
    have KK := Lib.hid (And.intro k1 k2)
    clear k1 k2
    go_enter Try.func9, Try.ntmps9
    go_wp2_with fail
    refine (KK.out.1 w).mono ?_
    rintro e w1 ⟨A, c, rfl, hs1, hb1⟩
    have H1 := Lib.hid (And.intro hb1 hs1)
    clear hb1 hs1
    go_wp2_with fail
    refine (KK.out.2 _).mono ?_
    rintro e w2 ⟨B, d, rfl, hs2, hb2⟩
    have H2 := Lib.hid (And.intro (H1.out.1.trans (hb2.mono H1.out.1.size)) (And.intro (H1.out.2.keep hb2 hb2.size) hs2))
    clear hb2 hs2
    go_wp2_with fail
    have ks := same_any A B c d l l w2 H2.out.2.1 H2.out.2.2 hl hl
    rw [decide_eq_true (show l = l from rfl)] at ks
    refine ks.mono ?_
    rintro e w3 ⟨rfl, n3, rfl⟩
    clear ks
    go_wp2_with fail
    refine (awake26 _).mono ?_
    rintro e w4 ⟨rfl, hb4⟩
    have H3 : Below w.heap.size w (w2.drewN n3) := below_drewN' H2.out.1 n3
    have H4 := Lib.hid (H3.trans (hb4.mono H3.size))
    clear hb4 H3
    go_wp2_with fail
    go_ret
    exact ⟨rfl, H4.out⟩
  · have hd : (5000 : Int) < s.size := by omega
    clear hc
    go_enter Try.func9, Try.ntmps9
    go_wp2_with fail
    refine (awake26 _).mono ?_
    rintro e w4 ⟨rfl, hb4⟩
    have H4 := Lib.hid hb4
    clear hb4
    go_wp2_with fail
    go_ret
    exact ⟨rfl, H4.out⟩

theorem word_both (s : ByteArray) (a w : Int) (hs : s.size ≤ 9223372036854775807) : ∃ n x : Nat,
    (∀ W, Calls Try.prog 26 #[.string s, .int .i64 a, .int .i64 w] W fun e w' => e = .returned (.tuple #[.int .u64 (n : Int), .int .i64 (x : Int)]) ∧ W = w') ∧
    (∀ W, Calls Try.prog 27 #[.string s, .int .i64 a, .int .i64 w] W fun e w' => e = .returned (.tuple #[.int .u64 (n : Int), .int .i64 (x : Int)]) ∧ W = w') := by
  by_cases h : 1 ≤ w ∧ w ≤ 8 ∧ 0 ≤ a ∧ a + w ≤ s.size
  · obtain ⟨i, rfl⟩ := Int.eq_ofNat_of_zero_le h.2.2.1
    obtain ⟨j, rfl⟩ := Int.eq_ofNat_of_zero_le (show 0 ≤ w by omega)
    exact ⟨Sec.word s.data.toList i j, 0, fun W => word_in s i j W (by omega) (by omega) (by omega) hs, fun W => refword_in s i j W (by omega) (by omega) (by omega) hs⟩
  · exact ⟨0, 2, fun W => word_out s a w W h hs, fun W => refword_out s a w W h hs⟩

set_option maxHeartbeats 400000 in
theorem sectionWord_walk (n : Nat) (s : ByteArray) (a b : Int) (w : World) (h0 : n < 2 ^ 64) (h1 : s.size ≤ maxLen) (_ : -9223372036854775808 ≤ a ∧ a ≤ 9223372036854775807) (h3 : -9223372036854775808 ≤ b ∧ b ≤ 9223372036854775807) :
    Calls Try.prog 10 #[.int .u64 n, .string s, .int .i64 a, .int .i64 b] w fun e w' => e = .returned (.bool true) ∧ Below w.heap.size w w' := by
  unfold maxLen at h1
  by_cases hc : s.size ≤ 5000
  · obtain ⟨m, x, k1, k2⟩ := word_both s a b (by omega)
    have k3 := fun W => number_any n b W (by simpa using h0)
    have k4 := fun W => refnumber_any n b W (by simpa using h0) h3
    obtain ⟨t, ht⟩ : ∃ t : ByteArray, (⟨(Sec.number n b).toArray⟩ : ByteArray) = t := ⟨_, rfl⟩
    rw [ht] at k3 k4
    have KK := Lib.hid (And.intro k1 (And.intro k2 (And.intro k3 k4)))
    clear k1 k2 k3 k4 ht
    go_enter Try.func10, Try.ntmps10
    go_wp2_with fail
    refine (KK.out.1 w).mono ?_
    rintro e w1 ⟨rfl, rfl⟩
    go_wp2_with fail
    refine (KK.out.2.1 _).mono ?_
    rintro e w1 ⟨rfl, rfl⟩
    go_wp2_with fail
    refine (KK.out.2.2.1 _).mono ?_
    rintro e w1 ⟨rfl, hb1⟩
    have H1 := Lib.hid hb1
    clear hb1
    go_wp2_with fail
    refine (KK.out.2.2.2 _).mono ?_
    rintro e w2 ⟨rfl, hb2⟩
    have H2 := Lib.hid (H1.out.trans (hb2.mono H1.out.size))
    clear hb2
    go_wp2_with fail
    refine (awake26 _).mono ?_
    rintro e w4 ⟨rfl, hb4⟩
    have H4 := Lib.hid (H2.out.trans (hb4.mono H2.out.size))
    clear hb4
    go_wp2_with fail
    go_ret
    exact ⟨rfl, H4.out⟩
  · have hd : (5000 : Int) < s.size := by omega
    clear hc
    go_enter Try.func10, Try.ntmps10
    go_wp2_with fail
    refine (awake26 _).mono ?_
    rintro e w4 ⟨rfl, hb4⟩
    have H4 := Lib.hid hb4
    clear hb4
    go_wp2_with fail
    go_ret
    exact ⟨rfl, H4.out⟩
end Go.Proofs.Ytccdipcneabooaa
