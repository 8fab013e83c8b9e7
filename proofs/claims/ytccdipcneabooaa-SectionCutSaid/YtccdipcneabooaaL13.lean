/- SectionCut: the walk. -/
import Derived.Test.YtccdipcneabooaaL12
import Derived.Test.YtccdipcneabooaaSk
namespace Go.Proofs.Ytccdipcneabooaa
open Go.RowKit Go.BigFrame

theorem cut_place (x : Int) (n : Nat) (h : 0 < n) (hn : n ≤ 268435660) : ∃ k : Nat, k < n ∧ (wrap64 (x.tmod n + n)).tmod n = (k : Int) := by
  have h1 : x.tmod n < n := Int.tmod_lt_of_pos x (by omega)
  have h2 : -(n : Int) < x.tmod n := by
    have := Int.lt_tmod_of_pos x (show (0 : Int) < n by omega)
    omega
  have h3 : wrap64 (x.tmod n + n) = x.tmod n + n := by
    generalize x.tmod n = q at *
    unfold wrap64
    omega
  rw [h3, Int.tmod_eq_emod_of_nonneg (by omega)]
  have h4 := Int.emod_nonneg (x.tmod n + n) (show (n : Int) ≠ 0 by omega)
  have h5 := Int.emod_lt_of_pos (x.tmod n + n) (show (0 : Int) < n by omega)
  exact ⟨((x.tmod n + n) % n).toNat, by omega, by omega⟩

set_option maxHeartbeats 800000 in
theorem sectionCut_walk (A : Option Addr) (c : Nat) (l : List Sect) (x : Int) (t : ByteArray) (w : World) (hl : SecsAt w w.heap.size A l) (hn : l.length ≤ 4611686018427387904) (hs : ∀ x ∈ l, x.1.size ≤ 140737488351232 ∧ x.2.size ≤ 140737488351232) (_ : -9223372036854775808 ≤ x ∧ x ≤ 9223372036854775807) (ht : t.size ≤ maxLen) :
    Calls Try.prog 13 #[.slice A l.length c, .int .i64 x, .string t] w fun e w' => e = .returned (.bool true) ∧ Below w.heap.size w w' := by
  unfold maxLen at ht
  have hs' : ∀ x ∈ l, x.1.size ≤ maxLen := fun x hx => by have := (hs x hx).1; unfold maxLen; omega
  have klong := fun W h => long_any A c l W h hn hs
  have kp := fun W h => put_any A c l W h hn hs'
  obtain ⟨Ps, hPs⟩ : ∃ Ps : ByteArray, (⟨(putB l).1.toArray⟩ : ByteArray) = Ps := ⟨_, rfl⟩
  have hPz : Ps.size ≤ 268435660 := by rw [← hPs]; show (putB l).1.toArray.size ≤ _; rw [List.size_toArray]; exact putB_size l
  have hPc : (putB l).2 ≠ 0 ∨ ((putB l).2 = 0 ∧ 0 < Ps.size ∧ (∀ k, k < Ps.size → getB (Ps.extract 0 k) = ([], 8)) ∧ (t = ⟨#[]⟩ ∨ (t ≠ ⟨#[]⟩ ∧ getB (Ps ++ t) = ([], 8)))) := by
    rcases putB_cases l with h | ⟨h1, h2, h3, h4⟩
    · exact Or.inl h
    · have hd : Ps.data.toList = imgTo l l.length := by rw [← hPs, h2]
      have hz : 0 < Ps.size := by
        rw [← toList_length, hd]
        exact List.length_pos_iff.2 (imgTo_ne l l.length)
      refine Or.inr ⟨h1, hz, fun k hk => getB_cut Ps _ k l hd (by rw [ext_list]; simp) hk h3 h4, ?_⟩
      by_cases he : t = ⟨#[]⟩
      · exact Or.inl he
      · exact Or.inr ⟨he, getB_more _ l t.data.toList (by rw [str_append, hd]) (fun e => he (bytes_ext0 e)) h3 h4⟩
  obtain ⟨Pe, hPe⟩ : ∃ Pe, (putB l).2 = Pe := ⟨_, rfl⟩
  rw [hPs, hPe] at kp
  rw [hPe] at hPc
  have KK := Lib.hid (And.intro klong kp)
  have HL := Lib.hid hl
  clear klong kp hl hs hs' hPs hPe
  by_cases hlg : longB l = true
  · clear hPc
    go_enter Try.func13, Try.ntmps13
    go_wp2_with fail
    refine (KK.out.2 w HL.out).mono ?_
    rintro e w1 ⟨rfl, hb1⟩
    have H1 := Lib.hid hb1
    clear hb1
    go_wp2_with fail
    refine (KK.out.1 _ (HL.out.keep H1.out H1.out.size)).mono ?_
    rintro e w2 ⟨rfl, n2, rfl⟩
    rw [hlg]
    have H2 := Lib.hid (below_drewN' H1.out n2)
    go_wp2_with fail
    refine (KK.out.1 _ (HL.out.keep H2.out H2.out.size)).mono ?_
    rintro e w3 ⟨rfl, n3, rfl⟩
    rw [hlg]
    have H3 := Lib.hid (below_drewN' H1.out (n2 + n3))
    go_wp2_with fail
    refine (awake26 _).mono ?_
    rintro e w5 ⟨rfl, hb5⟩
    have H5 := Lib.hid (H3.out.trans (hb5.mono H3.out.size))
    clear hb5
    go_wp2_with fail
    go_ret
    exact ⟨rfl, H5.out⟩
  · have hlf : longB l = false := by simpa using hlg
    clear hlg
    rcases hPc with hP | ⟨hP, hz, hcut, hmore⟩
    · have hP1 : ((Pe : Int) != 0) = true := by simp; omega
      have hP2 : ¬ (Pe : Int) = 0 := by omega
      clear hP
      go_enter Try.func13, Try.ntmps13
      go_wp2_with fail
      refine (KK.out.2 w HL.out).mono ?_
      rintro e w1 ⟨rfl, hb1⟩
      have H1 := Lib.hid hb1
      clear hb1
      go_wp2_with fail
      refine (KK.out.1 _ (HL.out.keep H1.out H1.out.size)).mono ?_
      rintro e w2 ⟨rfl, n2, rfl⟩
      rw [hlf]
      have H2 := Lib.hid (below_drewN' H1.out n2)
      go_wp2_with fail
      refine (KK.out.1 _ (HL.out.keep H2.out H2.out.size)).mono ?_
      rintro e w3 ⟨rfl, n3, rfl⟩
      rw [hlf]
      have H3 := Lib.hid (below_drewN' H1.out (n2 + n3))
      go_wp2_with fail
      refine (awake26 _).mono ?_
      rintro e w5 ⟨rfl, hb5⟩
      have H5 := Lib.hid (H3.out.trans (hb5.mono H3.out.size))
      clear hb5
      go_wp2_with fail
      go_ret
      exact ⟨rfl, H5.out⟩
    · subst hP
      have hz1 : ((Ps.size : Int) == 0) = false := beq_eq_false_iff_ne.2 (by omega)
      have hz2 : ¬ (Ps.size : Int) = 0 := by omega
      by_cases ht2 : t.size ≤ 100
      · obtain ⟨kc, hkc, hke⟩ := cut_place x Ps.size hz hPz
        have HC := Lib.hid (And.intro hcut hmore)
        clear hcut hmore
        go_enter Try.func13, Try.ntmps13
        go_wp2_with fail
        refine (KK.out.2 w HL.out).mono ?_
        rintro e w1 ⟨rfl, hb1⟩
        have H1 := Lib.hid hb1
        clear hb1
        go_wp2_with fail
        refine (KK.out.1 _ (HL.out.keep H1.out H1.out.size)).mono ?_
        rintro e w2 ⟨rfl, n2, rfl⟩
        rw [hlf]
        have H2 := Lib.hid (below_drewN' H1.out n2)
        go_wp2_with fail
        have kg1 := fun W => get_any (Ps.extract 0 kc) W (by rw [ByteArray.size_extract]; omega)
        rw [HC.out.1 kc hkc] at kg1
        have kg2 := fun W => get_any (Ps ++ t) W (by rw [ByteArray.size_append]; omega)
        have KG := Lib.hid (And.intro kg1 kg2)
        clear kg1 kg2
        refine (KG.out.1 _).mono ?_
        rintro e w3 ⟨G, gc, rfl, _, hb3⟩
        have H3 := Lib.hid (H2.out.trans (hb3.mono H2.out.size))
        clear hb3
        rcases HC.out.2 with he | ⟨he, hg2⟩
        · have hq1 : t.toList = [] := by rw [he, ByteArray.toList_eq]
          clear he
          generalize getB (Ps ++ t) = gg at *
          have hst : (Ps ++ t).size = Ps.size + t.size := ByteArray.size_append
          go_wp2_with fail
          refine (KG.out.2 _).mono ?_
          rintro e w4 ⟨G2, gc2, rfl, _, hb4⟩
          have H4 := Lib.hid (H3.out.trans (hb4.mono H3.out.size))
          clear hb4
          go_wp2_with fail
          refine (awake26 _).mono ?_
          rintro e w5 ⟨rfl, hb5⟩
          have H5 := Lib.hid (H4.out.trans (hb5.mono H4.out.size))
          clear hb5
          go_wp2_with fail
          go_ret
          exact ⟨rfl, H5.out⟩
        · have hq1 : ¬ t.toList = [] := fun e => he (bytes_ext0 (by rw [ByteArray.toList_eq] at e; exact e))
          clear he
          rw [hg2] at KG
          have hst : (Ps ++ t).size = Ps.size + t.size := ByteArray.size_append
          go_wp2_with fail
          refine (KG.out.2 _).mono ?_
          rintro e w4 ⟨G2, gc2, rfl, _, hb4⟩
          have H4 := Lib.hid (H3.out.trans (hb4.mono H3.out.size))
          clear hb4
          go_wp2_with fail
          refine (awake26 _).mono ?_
          rintro e w5 ⟨rfl, hb5⟩
          have H5 := Lib.hid (H4.out.trans (hb5.mono H4.out.size))
          clear hb5
          go_wp2_with fail
          go_ret
          exact ⟨rfl, H5.out⟩
      · have hd3 : (100 : Int) < t.size := by omega
        clear ht2 hcut hmore
        go_enter Try.func13, Try.ntmps13
        go_wp2_with fail
        refine (KK.out.2 w HL.out).mono ?_
        rintro e w1 ⟨rfl, hb1⟩
        have H1 := Lib.hid hb1
        clear hb1
        go_wp2_with fail
        refine (KK.out.1 _ (HL.out.keep H1.out H1.out.size)).mono ?_
        rintro e w2 ⟨rfl, n2, rfl⟩
        rw [hlf]
        have H2 := Lib.hid (below_drewN' H1.out n2)
        go_wp2_with fail
        refine (KK.out.1 _ (HL.out.keep H2.out H2.out.size)).mono ?_
        rintro e w3 ⟨rfl, n3, rfl⟩
        rw [hlf]
        have H3 := Lib.hid (below_drewN' H1.out (n2 + n3))
        go_wp2_with fail
        refine (awake26 _).mono ?_
        rintro e w5 ⟨rfl, hb5⟩
        have H5 := Lib.hid (H3.out.trans (hb5.mono H3.out.size))
        clear hb5
        go_wp2_with fail
        go_ret
        exact ⟨rfl, H5.out⟩
end Go.Proofs.Ytccdipcneabooaa
