/- SectionBack: the walk. -/
import Derived.Test.YtccdipcneabooaaWc
import Derived.Test.YtccdipcneabooaaSj
namespace Go.Proofs.Ytccdipcneabooaa
open Go.RowKit Go.BigFrame

theorem putB_cases (l : List Sect) : ((putB l).2 ≠ 0) ∨ ((putB l).2 = 0 ∧ (putB l).1 = imgTo l l.length ∧ TagsOk l ∧ ¬ BigTo l l.length) := by
  by_cases ht : TagsOk l
  · by_cases hb : BigTo l l.length
    · exact Or.inl (by rw [putB_big ht hb]; decide)
    · exact Or.inr (by rw [putB_ok ht hb]; exact ⟨rfl, rfl, ht, hb⟩)
  · exact Or.inl (by rw [putB_tags ht]; decide)
theorem putB_size (l : List Sect) : (putB l).1.length ≤ 268435660 := by
  by_cases ht : TagsOk l
  · by_cases hb : BigTo l l.length
    · rw [putB_big ht hb]; decide
    · rw [putB_ok ht hb]; exact imgTo_bound l ht _ (Nat.le_refl _) hb
  · rw [putB_tags ht]; decide

set_option maxHeartbeats 800000 in
theorem sectionBack_walk (A : Option Addr) (c : Nat) (l : List Sect) (t : ByteArray) (w : World) (hl : SecsAt w w.heap.size A l) (hn : l.length ≤ 4611686018427387904) (hs : ∀ x ∈ l, x.1.size ≤ 140737488351232 ∧ x.2.size ≤ 140737488351232) (ht : t.size ≤ maxLen) :
    Calls Try.prog 11 #[.slice A l.length c, .string t] w fun e w' => e = .returned (.bool true) ∧ Below w.heap.size w w' := by
  unfold maxLen at ht
  have hs' : ∀ x ∈ l, x.1.size ≤ maxLen := fun x hx => by have := (hs x hx).1; unfold maxLen; omega
  have klong := fun W h => long_any A c l W h hn hs
  by_cases hc : longB l = false ∧ t.size ≤ 5000
  · obtain ⟨hlg, ht2⟩ := hc
    have kp := fun W h => put_any A c l W h hn hs'
    obtain ⟨Ps, hPs⟩ : ∃ Ps : ByteArray, (⟨(putB l).1.toArray⟩ : ByteArray) = Ps := ⟨_, rfl⟩
    have hPz : Ps.size ≤ 268435660 := by rw [← hPs]; show (putB l).1.toArray.size ≤ _; rw [List.size_toArray]; exact putB_size l
    have hPc : (putB l).2 ≠ 0 ∨ ((putB l).2 = 0 ∧ getB Ps = (l, 0)) := by
      rcases putB_cases l with h | ⟨h1, h2, h3, h4⟩
      · exact Or.inl h
      · exact Or.inr ⟨h1, getB_img Ps l (by rw [← hPs, h2]) h3 h4⟩
    obtain ⟨Pe, hPe⟩ : ∃ Pe, (putB l).2 = Pe := ⟨_, rfl⟩
    rw [hPs, hPe] at kp
    rw [hPe] at hPc
    rw [hlg] at klong
    have kg := fun W => get_any Ps W (by omega)
    have kt := fun W => get_any t W (by omega)
    have hts := getB_small t
    have htc : ((getB t).1 = [] ∧ (getB t).2 ≠ 0) ∨ ((getB t).2 = 0 ∧ putB (getB t).1 = (t.data.toList, 0)) := by
      by_cases h : (getB t).2 = 0
      · exact Or.inr ⟨h, put_getB t h⟩
      · rcases getB_cases t with ⟨h1, _⟩ | ⟨_, h2, _⟩
        · exact Or.inl ⟨h1, h⟩
        · exact absurd h2 h
    generalize getB t = gt at *
    obtain ⟨tl, te⟩ := gt
    simp only at hts htc kt
    have kq := fun (B : Option Addr) (d : Nat) (W : World) h => put_any B d tl W h (by omega) (fun x hx => by have := (hts.2 x hx).1; unfold maxLen; omega)
    have KK := Lib.hid (And.intro klong (And.intro kp (And.intro kg (And.intro kt kq))))
    have HL := Lib.hid hl
    have HN := Lib.hid hn
    clear klong kp kg kt kq hl hs hs' hPs hPe hlg hts
    rcases hPc with hP | ⟨hP, hG⟩
    · have hP1 : ((Pe : Int) == 0) = false := by simp; omega
      have hP2 : ¬ (Pe : Int) = 0 := by omega
      clear hP
      go_enter Try.func11, Try.ntmps11
      go_wp2_with fail
      refine (KK.out.1 w HL.out).mono ?_
      rintro e w1 ⟨rfl, n1, rfl⟩
      go_wp2_with fail
      have g0 : Below w.heap.size w (w.drewN n1) := below_drewN' (Below.refl _ _) n1
      refine (KK.out.2.1 _ (HL.out.keep g0 g0.size)).mono ?_
      rintro e w2 ⟨rfl, hb2⟩
      have H2 := Lib.hid (g0.trans (hb2.mono g0.size))
      clear hb2 g0
      go_wp2_with fail
      refine (KK.out.2.2.1 _).mono ?_
      rintro e w3 ⟨G, gc, rfl, hsG, hb3⟩
      have H5 := Lib.hid (H2.out.trans (hb3.mono H2.out.size))
      clear hb3 hsG
      generalize getB Ps = gp at *
      go_wp2_with fail
      refine (KK.out.2.2.2.1 _).mono ?_
      rintro e w5 ⟨T, tc, rfl, hsT, hb5⟩
      have H6 := Lib.hid (And.intro (H5.out.trans (hb5.mono H5.out.size)) hsT)
      clear hb5 hsT
      go_wp2_with fail
      refine (KK.out.2.2.2.2 T tc _ H6.out.2).mono ?_
      rintro e w6 ⟨rfl, hb6⟩
      have H7 := Lib.hid (H6.out.1.trans (hb6.mono H6.out.1.size))
      clear hb6
      rcases htc with ⟨rfl, hte⟩ | ⟨rfl, hpt⟩
      · have hte1 : ((te : Int) != 0) = true := by simp; omega
        have hte2 : ¬ (te : Int) = 0 := by omega
        have hte3 : ((te : Int) == 0) = false := by simp; omega
        clear hte
        generalize putB [] = pp at *
        go_wp2_with fail
        refine (awake26 _).mono ?_
        rintro e w7 ⟨rfl, hb7⟩
        have H8 := Lib.hid (H7.out.trans (hb7.mono H7.out.size))
        clear hb7
        go_wp2_with fail
        go_ret
        exact ⟨rfl, H8.out⟩
      · rw [hpt]
        simp only
        rw [str_mk t]
        clear hpt
        go_wp2_with fail
        refine (awake26 _).mono ?_
        rintro e w7 ⟨rfl, hb7⟩
        have H8 := Lib.hid (H7.out.trans (hb7.mono H7.out.size))
        clear hb7
        go_wp2_with fail
        go_ret
        exact ⟨rfl, H8.out⟩
    · subst hP
      have ks := fun W (B : Option Addr) (d : Nat) h1 h2 => same_any A B c d l l W h1 h2 HN.out HN.out
      rw [decide_eq_true (show l = l from rfl)] at ks
      have KS := Lib.hid ks
      rw [hG] at KK
      clear hG ks
      go_enter Try.func11, Try.ntmps11
      go_wp2_with fail
      refine (KK.out.1 w HL.out).mono ?_
      rintro e w1 ⟨rfl, n1, rfl⟩
      go_wp2_with fail
      have g0 : Below w.heap.size w (w.drewN n1) := below_drewN' (Below.refl _ _) n1
      refine (KK.out.2.1 _ (HL.out.keep g0 g0.size)).mono ?_
      rintro e w2 ⟨rfl, hb2⟩
      have H2 := Lib.hid (g0.trans (hb2.mono g0.size))
      clear hb2 g0
      go_wp2_with fail
      refine (KK.out.2.2.1 _).mono ?_
      rintro e w3 ⟨G, gc, rfl, hsG, hb3⟩
      have H3 := Lib.hid (And.intro (H2.out.trans (hb3.mono H2.out.size)) hsG)
      clear hb3 hsG
      go_wp2_with fail
      refine (KS.out _ G gc (HL.out.keep H3.out.1 H3.out.1.size) H3.out.2).mono ?_
      rintro e w4 ⟨rfl, n4, rfl⟩
      have H5 := Lib.hid (below_drewN' H3.out.1 n4)
      go_wp2_with fail
      refine (KK.out.2.2.2.1 _).mono ?_
      rintro e w5 ⟨T, tc, rfl, hsT, hb5⟩
      have H6 := Lib.hid (And.intro (H5.out.trans (hb5.mono H5.out.size)) hsT)
      clear hb5 hsT
      go_wp2_with fail
      refine (KK.out.2.2.2.2 T tc _ H6.out.2).mono ?_
      rintro e w6 ⟨rfl, hb6⟩
      have H7 := Lib.hid (H6.out.1.trans (hb6.mono H6.out.1.size))
      clear hb6
      rcases htc with ⟨rfl, hte⟩ | ⟨rfl, hpt⟩
      · have hte1 : ((te : Int) != 0) = true := by simp; omega
        have hte2 : ¬ (te : Int) = 0 := by omega
        have hte3 : ((te : Int) == 0) = false := by simp; omega
        clear hte
        generalize putB [] = pp at *
        go_wp2_with fail
        refine (awake26 _).mono ?_
        rintro e w7 ⟨rfl, hb7⟩
        have H8 := Lib.hid (H7.out.trans (hb7.mono H7.out.size))
        clear hb7
        go_wp2_with fail
        go_ret
        exact ⟨rfl, H8.out⟩
      · rw [hpt]
        simp only
        rw [str_mk t]
        clear hpt
        go_wp2_with fail
        refine (awake26 _).mono ?_
        rintro e w7 ⟨rfl, hb7⟩
        have H8 := Lib.hid (H7.out.trans (hb7.mono H7.out.size))
        clear hb7
        go_wp2_with fail
        go_ret
        exact ⟨rfl, H8.out⟩
  · have KL := Lib.hid (klong w hl)
    clear klong
    have hd : longB l = true ∨ (longB l = false ∧ 5000 < t.size) := by
      by_cases h : longB l = true
      · exact Or.inl h
      · have h2 : longB l = false := by simpa using h
        refine Or.inr ⟨h2, ?_⟩
        rcases Nat.lt_or_ge 5000 t.size with h3 | h3
        · exact h3
        · exact absurd ⟨h2, h3⟩ hc
    clear hc hl hs hs'
    rcases hd with hd | ⟨hd, hd2⟩
    · go_enter Try.func11, Try.ntmps11
      go_wp2_with fail
      refine KL.out.mono ?_
      rintro e w1 ⟨rfl, n1, rfl⟩
      rw [hd]
      go_wp2_with fail
      refine (awake26 _).mono ?_
      rintro e w5 ⟨rfl, hb5⟩
      have H5 := Lib.hid ((below_drewN' (Below.refl w.heap.size w) n1).trans hb5)
      clear hb5
      go_wp2_with fail
      go_ret
      exact ⟨rfl, H5.out⟩
    · have hd3 : (5000 : Int) < t.size := by omega
      go_enter Try.func11, Try.ntmps11
      go_wp2_with fail
      refine KL.out.mono ?_
      rintro e w1 ⟨rfl, n1, rfl⟩
      rw [hd]
      go_wp2_with fail
      refine (awake26 _).mono ?_
      rintro e w5 ⟨rfl, hb5⟩
      have H5 := Lib.hid ((below_drewN' (Below.refl w.heap.size w) n1).trans hb5)
      clear hb5
      go_wp2_with fail
      go_ret
      exact ⟨rfl, H5.out⟩
end Go.Proofs.Ytccdipcneabooaa
