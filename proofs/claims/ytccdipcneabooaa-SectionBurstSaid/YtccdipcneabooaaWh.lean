/- The document's Get. -/
import Derived.Test.YtccdipcneabooaaWg
namespace Go.Proofs.Ytccdipcneabooaa
open Go.RowKit Go.BigFrame

theorem extract_list (s : ByteArray) (a b : Nat) : (s.extract a b).data.toList = (s.data.toList.drop a).take (b - a) := by simp
theorem ext_ext (s : ByteArray) (a b c : Nat) (h : a + c ≤ s.size) : (s.extract a s.size).extract b c = s.extract (a + b) (a + c) := by
  apply bytes_ext0
  rw [extract_list, extract_list, extract_list, List.drop_take, List.drop_drop, List.take_take]
  congr 1
  omega
theorem ext_size (s : ByteArray) (a : Nat) : (s.extract a s.size).size = s.size - a := by rw [ByteArray.size_extract]; omega
theorem ext_end (s : ByteArray) (a b : Nat) (h : a ≤ s.size) : (s.extract a s.size).extract b (s.size - a) = s.extract (a + b) s.size := by
  rw [ext_ext s a b (s.size - a) (by omega), show a + (s.size - a) = s.size by omega]
theorem w4_ext (s : ByteArray) (a b : Nat) (h : a + b + 4 ≤ s.size) : w4 (s.extract a s.size) b = w4 s (a + b) := by
  unfold w4 Sec.word
  rw [extract_list, List.drop_take, List.drop_drop, List.take_take, show min 4 (s.size - a - b) = 4 by omega]

set_option maxHeartbeats 1600000 in
theorem refget_any (s : ByteArray) (w : World) (hs : s.size ≤ 140737488351232) :
    Calls Try.prog 24 #[.string s] w fun e w' => ∃ A c, e = .returned (.tuple #[.slice A (getB s).1.length c, .int .i64 ((getB s).2 : Nat)]) ∧ SecsAt w' w'.heap.size A (getB s).1 ∧ Below w.heap.size w w' := by
  obtain ⟨i0, hi, hz0, hz1, hz2⟩ := info_parts info50
  have HI := Lib.hid (And.intro hi (And.intro hz0 (And.intro hz1 hz2)))
  clear hi hz0 hz1 hz2
  by_cases h12 : 12 ≤ s.size
  · have hk0 : ∀ W, _ := fun W => refword_in s 8 4 W (by decide) (by decide) (by omega) (by omega)
    have hm := w4_lt s 8
    obtain ⟨m, hmd⟩ : ∃ m, m = w4 s 8 := ⟨_, rfl⟩
    rw [show Sec.word s.data.toList 8 4 = m from hmd.symm] at hk0
    rw [← hmd] at hm
    have H0 := Lib.hid (And.intro hmd hk0)
    clear hk0 hmd
    have hf1 := four_size 1
    have k1 := fun W => refnumber_in 1 4 W (by decide) (by decide)
    obtain ⟨f1, hf1d⟩ : ∃ f1 : ByteArray, f1 = ⟨(Sec.numB 1 4).toArray⟩ := ⟨_, rfl⟩
    rw [← hf1d] at hf1 k1
    have K1 := Lib.hid (And.intro hf1d k1)
    clear hf1d k1
    have hsz0 : decide (s.size < 12) = false := by simp; omega
    have hsz1 : decide ((s.size : Int) < 12) = false := by simp; omega
    by_cases hh : s.extract 0 8 = ⟨#[76, 79, 70, 84]⟩ ++ f1
    · have hq := str_eq' hh
      by_cases h16 : m ≤ 16
      · have HD : HeadIs s := ⟨h12, by rw [hh, K1.out.1], by rw [← H0.out.1]; exact h16⟩
        have HDD := Lib.hid HD
        clear hh HD
        go_enter Try.func24, Try.ntmps24
        go_wp2_with fail
        refine wp_region_keeps (Below w.heap.size w) (by kernel_rfl) (by kernel_rfl) (Below.refl _ _).drew (fun _ => ?_)
        repeat (first
          | go_big_quiet_skip
          | (go_big_quiet_want
             go_big_quiet_op
             first
               | go_big_quiet_on
               | (apply Exists.intro
                  refine ⟨fun x => ?_, ?_⟩
                  · first
                      | with_reducible exact Calls.keeps_below (K1.out.2 _)
                  go_big_quiet_on)))
        refine wpQuiet_nil ?_
        rintro _ ⟨x, rfl⟩
        have hx := x.ok
        have hw0 : IntKind.i64.wrap (m : Int) = (m : Int) := IntWalk.i64_in _ (by omega)
        have H1 := Lib.hid hx
        clear hx hq
        go_wp2_with fail
        refine (H0.out.2 _).mono ?_
        rintro e w1 ⟨rfl, rfl⟩
        go_wp2_with fail
        go_loopw [6, 7, 8, 9] (fun v r p i wr => ∃ k : Nat, k ≤ m ∧ i = .int .i64 k ∧ ∃ (out : List Sect) (right : Bool) (a : Nat), stG s k = some (out, right, a) ∧ r = .bool right ∧ p = .string (s.extract a s.size) ∧ wr.ownsRow w.heap.size 50 2 v out.length (secVals out) ∧ Below w.heap.size w wr) (fun _ _ _ i _ => m - (intOf i).toNat)
        case atStart => exact ⟨0, by omega, rfl, [], true, 12, rfl, rfl, rfl, World.ownsRow_nil _ _ _ _, H1.out⟩
        case round =>
          obtain ⟨k, hk, rfl, out, right, a, hst, rfl, rfl, hown, hb⟩ := hrel
          have hfacts := stG_facts hst
          simp only at hfacts
          have ha : a ≤ s.size := by omega
          obtain ⟨lf, hlf⟩ : ∃ lf, s.extract a s.size = lf := ⟨_, rfl⟩
          have hlz : lf.size = s.size - a := by rw [← hlf]; exact ext_size s a
          rw [hlf]
          by_cases hlt : k < m
          · have hsucc := stG_succ hst
            have hnone : ¬ SecIs s a → getB s = ([], 8) := fun h => getB_none (k := k + 1) (by rw [← H0.out.1]; omega) (by rw [hsucc]; exact if_neg h)
            have HS := Lib.hid (And.intro hst (And.intro hsucc (And.intro hnone (And.intro hown (And.intro hb hfacts)))))
            clear hst hsucc hnone hown hb hfacts
            by_cases h12a : a + 12 ≤ s.size
            · have kw1 := refword_in lf 4 4 wr (by decide) (by decide) (by omega) (by omega)
              have hn := w4_lt s (a + 4)
              obtain ⟨n, hnd⟩ : ∃ n, n = w4 s (a + 4) := ⟨_, rfl⟩
              rw [show Sec.word lf.data.toList 4 4 = n by rw [hnd, ← hlf]; exact w4_ext s a 4 (by omega)] at kw1
              rw [← hnd] at hn
              have KW1 := Lib.hid (And.intro hnd kw1)
              clear hnd kw1
              have kw2 := refword_in lf 8 4 wr (by decide) (by decide) (by omega) (by omega)
              have hwt := w4_lt s (a + 8)
              obtain ⟨wt, hwtd⟩ : ∃ wt, wt = w4 s (a + 8) := ⟨_, rfl⟩
              rw [show Sec.word lf.data.toList 8 4 = wt by rw [hwtd, ← hlf]; exact w4_ext s a 8 (by omega)] at kw2
              rw [← hwtd] at hwt
              have KW2 := Lib.hid (And.intro hwtd kw2)
              clear hwtd kw2
              have hwn : IntKind.i64.wrap (n : Int) = (n : Int) := IntWalk.i64_in _ (by omega)
              have HLF := Lib.hid hlf
              have HLZ := Lib.hid hlz
              clear hlf
              go_wp2_with fail
              refine KW1.out.2.mono ?_
              rintro e w2 ⟨rfl, rfl⟩
              go_wp2_with fail
              refine KW2.out.2.mono ?_
              rintro e w2 ⟨rfl, rfl⟩
              by_cases hbig : n ≤ 16777216
              · by_cases hfit : a + 12 + n ≤ s.size
                · have hsec : secAt s a = (lf.extract 0 4, lf.extract 12 (12 + n)) := by
                    rw [← HLF.out, ext_ext s a 0 4 (by omega), ext_ext s a 12 (12 + n) (by omega), Nat.add_zero, ← Nat.add_assoc, KW1.out.1]
                    rfl
                  have hnxl : s.extract (a + 12 + n) s.size = lf.extract (12 + n) lf.size := by
                    rw [hlz, ← HLF.out, ext_end s a (12 + n) ha, ← Nat.add_assoc]
                  have hnx := HS.out.2.1
                  rw [show stepG s (out, right, a) = some (out ++ [secAt s a], right && decide (Crc.more 0 (secAt s a).2.data.toList = w4 s (a + 8)), a + 12 + w4 s (a + 4)) from if_pos ⟨h12a, by rw [← KW1.out.1]; exact hbig, by rw [← KW1.out.1]; exact hfit⟩, hsec, ← KW1.out.1, ← KW2.out.1] at hnx
                  have hdz : (lf.extract 12 (12 + n)).size ≤ 16777216 := by rw [ByteArray.size_extract]; omega
                  obtain ⟨tg, htg⟩ : ∃ tg, lf.extract 0 4 = tg := ⟨_, rfl⟩
                  obtain ⟨dt, hdt⟩ : ∃ dt, lf.extract 12 (12 + n) = dt := ⟨_, rfl⟩
                  rw [hdt] at hdz
                  rw [htg, hdt] at hnx
                  have HN := Lib.hid (And.intro hnx hnxl)
                  have hsl1 : (12 : Int) + n ≤ lf.size := by omega
                  have hsl2 : ((12 : Int) + n).toNat = 12 + n := by omega
                  clear hnx hsec hnxl
                  have hbs : w.heap.size ≤ wr.heap.size := HS.out.2.2.2.2.1.size
                  have hol : out.length = k := HS.out.2.2.2.2.2.1
                  cases right with
                  | false =>
                    go_wp2_with fail
                    go_region
                    clear htg hdt
                    go_wp2_with (at_builtin; go_loud (refine wpList_append_own _ rfl _ _ 35 rfl w.heap.size 50 i0 _ 2 32 Try.underlying35 HI.out.1 HI.out.2.1 HI.out.2.2.1 HI.out.2.2.2 rfl (by decide) _ _ _ rfl (((HS.out.2.2.2.1.alloc _).alloc _).drew) _ 1 1 [.string tg, .string dt] rfl rfl ?c1 ?c2 ?c3 ?c4 ?c5 ?_))
                    case c1 =>
                      intro j u hj
                      rw [add_flat, Nat.zero_add]
                      exact (World.cell?_alloc2_new _ _ _ _).trans (by simpa using hj)
                    case c2 => intro u hu; simp at hu; rcases hu with rfl | rfl <;> rfl
                    case c3 => unfold maxLen; omega
                    case c4 => omega
                    case c5 => simp; omega
                    intro v' w5 hown5 hgrow5 _
                    have hb5 : Below w.heap.size w w5 := (below_drewN' ((HS.out.2.2.2.2.1.alloc hbs _).alloc (by simp; omega) _) 1).grown hgrow5 (by simp; omega) (fun j hj => (HS.out.2.2.2.1.lt j hj).1)
                    have H5 := Lib.hid (And.intro hown5 hb5)
                    clear hown5 hgrow5 hb5 hbs hol
                    set_option maxRecDepth 100000 in
                    go_wp2_with fail
                    go_roundw
                    case rel => exact ⟨k + 1, by omega, by go_num, out ++ [(tg, dt)], false, a + 12 + n, HN.out.1, rfl, by rw [HN.out.2, HLZ.out], by rw [secVals_append, List.length_append, HS.out.2.2.2.2.2.1]; exact H5.out.1, H5.out.2⟩
                    case measure => simp [intOf]; omega
                  | true =>
                    go_wp2_with fail
                    go_region
                    clear htg hdt
                    have hrl : Crc.more 0 dt.data.toList < 4294967296 := Crc.more_lt _ (by decide)
                    obtain ⟨r, hr⟩ : ∃ r, Crc.more 0 dt.data.toList = r := ⟨_, rfl⟩
                    have kof := fun W => refof_any dt W (by omega)
                    rw [hr] at kof hrl
                    have KOF := Lib.hid (And.intro hr kof)
                    clear hr kof
                    have hwr : IntKind.u64.wrap (r : Int) = (r : Int) := IntWalk.u64_in _ (by omega)
                    go_wp2_with fail
                    refine (KOF.out.2 _).mono ?_
                    rintro e w4 ⟨rfl, rfl⟩
                    go_wp2_with (at_builtin; go_loud (refine wpList_append_own _ rfl _ _ 35 rfl w.heap.size 50 i0 _ 2 32 Try.underlying35 HI.out.1 HI.out.2.1 HI.out.2.2.1 HI.out.2.2.2 rfl (by decide) _ _ _ rfl (((HS.out.2.2.2.1.alloc _).alloc _).drew) _ 1 1 [.string tg, .string dt] rfl rfl ?d1 ?d2 ?d3 ?d4 ?d5 ?_))
                    case d1 =>
                      intro j u hj
                      rw [add_flat, Nat.zero_add]
                      exact (World.cell?_alloc2_new _ _ _ _).trans (by simpa using hj)
                    case d2 => intro u hu; simp at hu; rcases hu with rfl | rfl <;> rfl
                    case d3 => unfold maxLen; omega
                    case d4 => omega
                    case d5 => simp; omega
                    intro v' w5 hown5 hgrow5 _
                    have hb5 : Below w.heap.size w w5 := (below_drewN' ((HS.out.2.2.2.2.1.alloc hbs _).alloc (by simp; omega) _) 1).grown hgrow5 (by simp; omega) (fun j hj => (HS.out.2.2.2.1.lt j hj).1)
                    have H5 := Lib.hid (And.intro hown5 hb5)
                    clear hown5 hgrow5 hb5 hbs hol
                    set_option maxRecDepth 100000 in
                    go_wp2_with fail
                    go_roundw
                    case rel => exact ⟨k + 1, by omega, by go_num, out ++ [(tg, dt)], _, a + 12 + n, HN.out.1, by rw [KOF.out.1]; exact congrArg Value.bool (beq_cast r wt), by rw [HN.out.2, HLZ.out], by rw [secVals_append, List.length_append, HS.out.2.2.2.2.2.1]; exact H5.out.1, H5.out.2⟩
                    case measure => simp [intOf]; omega
                · have HF := Lib.hid (HS.out.2.2.1 fun h => hfit (by rw [KW1.out.1]; exact h.2.2))
                  have hfit2 : (lf.size : Int) - 12 < n := by omega
                  clear hfit hlz
                  go_wp2_with fail
                  go_ret2
                  exact ⟨none, 0, by rw [HF.out]; rfl, by rw [HF.out]; exact SecsAt.nil _ _ _, HS.out.2.2.2.2.1⟩
              · have HF := Lib.hid (HS.out.2.2.1 fun h => hbig (by rw [KW1.out.1]; exact h.2.1))
                have hbig2 : (16777216 : Int) < n := by omega
                clear hbig
                go_wp2_with fail
                go_ret2
                exact ⟨none, 0, by rw [HF.out]; rfl, by rw [HF.out]; exact SecsAt.nil _ _ _, HS.out.2.2.2.2.1⟩
            · have HF := Lib.hid (HS.out.2.2.1 fun h => h12a h.1)
              have hls : (lf.size : Int) < 12 := by omega
              clear h12a hlf hlz
              go_wp2_with fail
              go_ret2
              exact ⟨none, 0, by rw [HF.out]; rfl, by rw [HF.out]; exact SecsAt.nil _ _ _, HS.out.2.2.2.2.1⟩
          · obtain rfl : k = m := by omega
            have HS := Lib.hid (And.intro hst (And.intro hown (And.intro hb hfacts)))
            clear hst hown hb hfacts
            obtain ⟨A, c, rfl, hsec⟩ := SecsAt.of_own HS.out.2.1
            have hlen : out.length = k := HS.out.2.2.2.1
            have HL := Lib.hid hlen
            have ktags := reftags_any A c out wr hsec (by omega)
            have HSEC := Lib.hid hsec
            rw [hlen] at ktags
            have KT := Lib.hid ktags
            clear ktags hsec
            by_cases hend : a = s.size
            · have hle : lf = ⟨#[]⟩ := by
                apply bytes_ext0
                have h0 : lf.data.toList.length = 0 := by
                  show lf.size = 0
                  omega
                exact List.length_eq_zero_iff.1 h0
              have hq1 : lf.toList = [] := by rw [hle, ByteArray.toList_eq]
              have HE := Lib.hid hend
              clear hend hlf hle
              go_wp2_with fail
              refine KT.out.mono ?_
              rintro e w2 ⟨rfl, n2, rfl⟩
              have hb02 : Below w.heap.size w (wr.drewN n2) := below_drewN' HS.out.2.2.1 n2
              have HB := Lib.hid (And.intro hb02 (HSEC.out.keep (below_drewN' (Below.refl _ _) n2) (Nat.le_refl _)))
              clear hb02
              by_cases htg : TagsOk out
              · rw [tagsB_true htg]
                cases right with
                | true =>
                  have HF := Lib.hid (getB_ok HDD.out (by rw [← H0.out.1]; exact HS.out.1) HE.out htg rfl)
                  clear htg
                  go_wp2_with fail
                  go_ret2
                  exact ⟨A, c, by rw [HF.out, HL.out]; rfl, by rw [HF.out]; exact HB.out.2, HB.out.1⟩
                | false =>
                  have HF := Lib.hid (getB_sum HDD.out (by rw [← H0.out.1]; exact HS.out.1) HE.out htg rfl)
                  clear htg
                  go_wp2_with fail
                  go_ret2
                  exact ⟨none, 0, by rw [HF.out]; rfl, by rw [HF.out]; exact SecsAt.nil _ _ _, HB.out.1⟩
              · rw [tagsB_false htg]
                have HF := Lib.hid (getB_bad (s := s) (by rw [← H0.out.1]; exact HS.out.1) fun h => htg h.2)
                clear htg
                go_wp2_with fail
                go_ret2
                exact ⟨none, 0, by rw [HF.out]; rfl, by rw [HF.out]; exact SecsAt.nil _ _ _, HB.out.1⟩
            · have hle : lf ≠ ⟨#[]⟩ := fun e => by
                have : lf.size = 0 := by rw [e]; rfl
                omega
              have hq1 : ¬ lf.toList = [] := fun e => hle (bytes_ext0 (by rw [ByteArray.toList_eq] at e; exact e))
              have HF := Lib.hid (getB_bad (s := s) (by rw [← H0.out.1]; exact HS.out.1) fun h => hend h.1)
              clear hend hlf hle
              go_wp2_with fail
              go_ret2
              exact ⟨none, 0, by rw [HF.out]; rfl, by rw [HF.out]; exact SecsAt.nil _ _ _, HS.out.2.2.1⟩
      · have hdec : (16 < (m : Int)) = True := eq_true (by omega)
        have HF := Lib.hid (getB_head (s := s) fun h => h16 (by rw [H0.out.1]; exact h.2.2))
        clear hh h16
        go_enter Try.func24, Try.ntmps24
        go_wp2_with fail
        refine wp_region_keeps (Below w.heap.size w) (by kernel_rfl) (by kernel_rfl) (Below.refl _ _).drew (fun _ => ?_)
        repeat (first
          | go_big_quiet_skip
          | (go_big_quiet_want
             go_big_quiet_op
             first
               | go_big_quiet_on
               | (apply Exists.intro
                  refine ⟨fun x => ?_, ?_⟩
                  · first
                      | with_reducible exact Calls.keeps_below (K1.out.2 _)
                  go_big_quiet_on)))
        refine wpQuiet_nil ?_
        rintro _ ⟨x, rfl⟩
        have hx := x.ok
        go_wp2_with fail
        refine (H0.out.2 _).mono ?_
        rintro e w1 ⟨rfl, rfl⟩
        go_wp2_with fail
        go_ret2
        exact ⟨none, 0, by rw [HF.out]; rfl, by rw [HF.out]; exact SecsAt.nil _ _ _, hx⟩
    · have hq := str_ne' hh
      have HF := Lib.hid (getB_head (s := s) fun h => hh (by rw [K1.out.1]; exact h.2.1))
      clear hh
      go_enter Try.func24, Try.ntmps24
      go_wp2_with fail
      refine wp_region_keeps (Below w.heap.size w) (by kernel_rfl) (by kernel_rfl) (Below.refl _ _).drew (fun _ => ?_)
      repeat (first
        | go_big_quiet_skip
        | (go_big_quiet_want
           go_big_quiet_op
           first
             | go_big_quiet_on
             | (apply Exists.intro
                refine ⟨fun x => ?_, ?_⟩
                · first
                    | with_reducible exact Calls.keeps_below (K1.out.2 _)
                go_big_quiet_on)))
      refine wpQuiet_nil ?_
      rintro _ ⟨x, rfl⟩
      have hx := x.ok
      go_wp2_with fail
      go_ret2
      exact ⟨none, 0, by rw [HF.out]; rfl, by rw [HF.out]; exact SecsAt.nil _ _ _, hx⟩
  · have HF := Lib.hid (getB_head (s := s) fun h => h12 h.1)
    have hsz0 : decide (s.size < 12) = true := by simp; omega
    have hsz1 : decide ((s.size : Int) < 12) = true := by simp; omega
    clear h12
    go_enter Try.func24, Try.ntmps24
    go_wp2_with fail
    go_quiet (fail)
    go_wp2_with fail
    go_ret2
    exact ⟨none, 0, by rw [HF.out]; rfl, by rw [HF.out]; exact SecsAt.nil _ _ _, below_drewN' (Below.refl _ _) _⟩
end Go.Proofs.Ytccdipcneabooaa
