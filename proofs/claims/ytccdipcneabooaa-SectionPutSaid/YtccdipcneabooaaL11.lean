/- SectionPut: the walk. -/
import Derived.Test.YtccdipcneabooaaWc
namespace Go.Proofs.Ytccdipcneabooaa
open Go.RowKit Go.BigFrame

theorem secFind_cons (x : Sect) (l : List Sect) (t : ByteArray) : secFind (x :: l) t = if x.1 = t then some x.2 else secFind l t := by
  unfold secFind
  rw [List.find?_cons]
  by_cases h : x.1 = t
  · simp [h]
  · simp [h]
theorem secFind_drop (l : List Sect) (t : ByteArray) (k : Nat) (h : k < l.length) : secFind (l.drop k) t = if l[k].1 = t then some l[k].2 else secFind (l.drop (k + 1)) t := by
  rw [List.drop_eq_getElem_cons h, secFind_cons]

set_option maxHeartbeats 800000 in
theorem sectionPut_walk (A : Option Addr) (c : Nat) (l : List Sect) (t : ByteArray) (w : World) (hl : SecsAt w w.heap.size A l) (hn : l.length ≤ 4611686018427387904) (hs : ∀ x ∈ l, x.1.size ≤ 140737488351232 ∧ x.2.size ≤ 140737488351232) (ht : t.size ≤ maxLen) :
    Calls Try.prog 15 #[.slice A l.length c, .string t] w fun e w' => e = .returned (.bool true) ∧ Below w.heap.size w w' := by
  unfold maxLen at ht
  have hs' : ∀ x ∈ l, x.1.size ≤ maxLen := fun x hx => by have := (hs x hx).1; unfold maxLen; omega
  have klong := fun W h => long_any A c l W h hn hs
  by_cases hc : longB l = false ∧ t.size ≤ 100
  · obtain ⟨hlg, ht2⟩ := hc
    have kp := fun W h => put_any A c l W h hn hs'
    have kr := fun W h => refput_any A c l W h hn hs'
    have kf := fun W h => find_any A c l t W h (by omega)
    obtain ⟨Ps, hPs⟩ : ∃ Ps : ByteArray, (⟨(putB l).1.toArray⟩ : ByteArray) = Ps := ⟨_, rfl⟩
    obtain ⟨Pe, hPe⟩ : ∃ Pe, (putB l).2 = Pe := ⟨_, rfl⟩
    obtain ⟨Fd, hFd⟩ : ∃ Fd : ByteArray, (secFind l t).getD ⟨#[]⟩ = Fd := ⟨_, rfl⟩
    obtain ⟨Fb, hFb⟩ : ∃ Fb, (secFind l t).isSome = Fb := ⟨_, rfl⟩
    rw [hPs, hPe] at kp kr
    rw [hFd, hFb] at kf
    rw [hlg] at klong
    have KK := Lib.hid (And.intro klong (And.intro kp (And.intro kr kf)))
    have HL := Lib.hid (And.intro hl (And.intro hFd hFb))
    clear klong kp kr kf hl hs hs' hPs hPe hFd hFb hlg
    go_enter Try.func15, Try.ntmps15
    go_wp2_with fail
    refine (KK.out.1 w HL.out.1).mono ?_
    rintro e w1 ⟨rfl, n1, rfl⟩
    go_wp2_with fail
    have g0 : Below w.heap.size w (w.drewN n1) := below_drewN' (Below.refl _ _) n1
    refine (KK.out.2.1 _ (HL.out.1.keep g0 g0.size)).mono ?_
    rintro e w2 ⟨rfl, hb2⟩
    have H2 := Lib.hid (g0.trans (hb2.mono g0.size))
    clear hb2 g0
    go_wp2_with fail
    refine (KK.out.2.2.1 _ (HL.out.1.keep H2.out H2.out.size)).mono ?_
    rintro e w3 ⟨rfl, hb3⟩
    have H3 := Lib.hid (H2.out.trans (hb3.mono H2.out.size))
    clear hb3
    go_wp2_with fail
    refine (KK.out.2.2.2 _ (HL.out.1.keep H3.out H3.out.size)).mono ?_
    rintro e w4 ⟨rfl, hb4⟩
    have H4 := Lib.hid (H3.out.trans (hb4.mono H3.out.size))
    clear hb4
    go_wp2_with fail
    go_loopw [11, 12, 13] (fun v h i wr => ∃ k : Nat, k ≤ l.length ∧ i = .int .i64 ((k : Int) - 1) ∧ ∃ (q : Option ByteArray) (d : ByteArray) (hb : Bool), q = secFind (l.drop k) t ∧ q.getD ⟨#[]⟩ = d ∧ q.isSome = hb ∧ v = .string d ∧ h = .bool hb ∧ Below w.heap.size w wr) (fun _ _ i _ => (intOf i + 1).toNat)
    case atStart =>
      refine ⟨l.length, Nat.le_refl _, by go_num, none, ⟨#[]⟩, false, by rw [List.drop_length]; rfl, rfl, rfl, rfl, rfl, H4.out⟩
    case round =>
      obtain ⟨k, hk, rfl, q, d, hbq, hq, hqd, hqb, rfl, rfl, hb⟩ := hrel
      rcases Nat.eq_zero_or_pos k with rfl | hpos
      · rw [List.drop_zero] at hq
        have e1 : d = Fd := by rw [← hqd, hq, HL.out.2.1]
        have e2 : hbq = Fb := by rw [← hqb, hq, HL.out.2.2]
        have HB := Lib.hid hb
        clear hq hqd hqb hb
        subst e1 e2
        have hbb : ((hbq : Bool) == hbq) = true := by simp
        go_wp2_with fail
        refine (awake26 _).mono ?_
        rintro e w5 ⟨rfl, hb5⟩
        have H5 := Lib.hid (HB.out.trans (hb5.mono HB.out.size))
        clear hb5
        go_wp2_with fail
        go_ret
        exact ⟨rfl, H5.out⟩
      · obtain ⟨m, rfl⟩ : ∃ m, k = m + 1 := ⟨k - 1, by omega⟩
        have hlt : m < l.length := by omega
        obtain ⟨b, o, rfl, hab, hc1, hc2⟩ := HL.out.1.keep hb (Nat.le_refl _) m hlt
        have hsd := secFind_drop l t m hlt
        rw [← hq] at hsd
        rw [show ((m + 1 : Nat) : Int) - 1 = (m : Int) by omega]
        have hml : (m : Int) < l.length := by omega
        obtain ⟨tg, htg⟩ : ∃ tg, l[m].1 = tg := ⟨_, rfl⟩
        obtain ⟨dt, hdt⟩ : ∃ dt, l[m].2 = dt := ⟨_, rfl⟩
        rw [htg] at hc1 hsd
        rw [hdt] at hc2 hsd
        have HB := Lib.hid (And.intro hb (And.intro hqd (And.intro hqb hsd)))
        clear hb hqd hqb hsd hq htg hdt
        by_cases he : tg = t
        · have hq1 := str_eq' he
          have HE := Lib.hid he
          clear he
          go_wp2_with fail
          go_roundw
          case rel => exact ⟨m, by omega, by go_num, some dt, dt, true, by rw [HB.out.2.2.2, if_pos HE.out], rfl, rfl, rfl, rfl, HB.out.1⟩
          case measure => simp [intOf]
        · have hq1 := str_ne' he
          have HE := Lib.hid he
          clear he
          go_wp2_with fail
          go_roundw
          case rel => exact ⟨m, by omega, by go_num, q, d, hbq, by rw [HB.out.2.2.2, if_neg HE.out], HB.out.2.1, HB.out.2.2.1, rfl, rfl, HB.out.1⟩
          case measure => simp [intOf]
  · have KL := Lib.hid (klong w hl)
    clear klong
    have hd : longB l = true ∨ (longB l = false ∧ 100 < t.size) := by
      by_cases h : longB l = true
      · exact Or.inl h
      · have h2 : longB l = false := by simpa using h
        refine Or.inr ⟨h2, ?_⟩
        rcases Nat.lt_or_ge 100 t.size with h3 | h3
        · exact h3
        · exact absurd ⟨h2, h3⟩ hc
    clear hc hl hs hs'
    rcases hd with hd | ⟨hd, hd2⟩
    · go_enter Try.func15, Try.ntmps15
      go_wp2_with fail
      refine KL.out.mono ?_
      rintro e w1 ⟨rfl, n1, rfl⟩
      rw [hd]
      go_wp2_with fail
      refine (awake26 _).mono ?_
      rintro e w5 ⟨rfl, hb5⟩
      have H5 := Lib.hid ((below_drewN' (Below.refl w.heap.size w) n1).trans hb5)
      clear hb5
      go_wp2_with fail
      go_ret
      exact ⟨rfl, H5.out⟩
    · have hd3 : (100 : Int) < t.size := by omega
      go_enter Try.func15, Try.ntmps15
      go_wp2_with fail
      refine KL.out.mono ?_
      rintro e w1 ⟨rfl, n1, rfl⟩
      rw [hd]
      go_wp2_with fail
      refine (awake26 _).mono ?_
      rintro e w5 ⟨rfl, hb5⟩
      have H5 := Lib.hid ((below_drewN' (Below.refl w.heap.size w) n1).trans hb5)
      clear hb5
      go_wp2_with fail
      go_ret
      exact ⟨rfl, H5.out⟩
end Go.Proofs.Ytccdipcneabooaa
