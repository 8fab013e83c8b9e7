/- Get. -/
import Derived.Test.YtccdipcneabooaaWs
import Derived.Test.YtccdipcneabooaaSg
namespace Go.Proofs.Ytccdipcneabooaa
open Go.RowKit Go.BigFrame

/-- the cells of a row of sections -/
def secVals (l : List Sect) : List Value := l.flatMap fun x => [.string x.1, .string x.2]
theorem secVals_append (l m : List Sect) : secVals (l ++ m) = secVals l ++ secVals m := by simp [secVals]
theorem secVals_at : ∀ (l : List Sect) (i : Nat) (h : i < l.length), (secVals l)[i * 2]? = some (.string l[i].1) ∧ (secVals l)[i * 2 + 1]? = some (.string l[i].2)
  | x :: l, 0, _ => ⟨rfl, rfl⟩
  | x :: l, i + 1, h => by
    have ih := secVals_at l i (by simpa using h)
    have e : secVals (x :: l) = .string x.1 :: .string x.2 :: secVals l := rfl
    rw [e, show (i + 1) * 2 = i * 2 + 2 by omega]
    exact ih
theorem add_flat (g o j : Nat) : (⟨g, o, none⟩ : Addr).add j = ⟨g, o + j, none⟩ := by
  unfold Addr.add
  by_cases h : j = 0
  · simp [h]
  · simp [h]
theorem SecsAt.of_own {w : World} {B : Nat} {v : Value} {l : List Sect} (h : w.ownsRow B 50 2 v l.length (secVals l)) : ∃ A c, v = .slice A l.length c ∧ SecsAt w w.heap.size A l := by
  rcases h.2 with ⟨hv, h0⟩ | ⟨g, cap, cur, rfl, _⟩
  · refine ⟨none, 0, by rw [hv, h0], fun i hi => absurd hi (by omega)⟩
  · refine ⟨some ⟨g, 0, none⟩, cap, rfl, fun i hi => ⟨g, 0, rfl, (h.lt g rfl).2, ?_, ?_⟩⟩
    · rw [← add_flat]; exact h.cells (g := g) rfl (i * 2) _ (secVals_at l i hi).1
    · rw [show 0 + i * 2 + 1 = 0 + (i * 2 + 1) by omega, ← add_flat]; exact h.cells (g := g) rfl (i * 2 + 1) _ (secVals_at l i hi).2

theorem own_keep {w w' : World} {B : Nat} {e : TypeId} {n : Nat} {v : Value} {m : Nat} {xs : List Value} (hown : w.ownsRow B e n v m xs) (hb : Below w.heap.size w w') : w'.ownsRow B e n v m xs := by
  have hl := hown.lt
  refine ⟨hown.1, ?_⟩
  rcases hown.2 with hv | ⟨g, cap, cur, rfl, h1, h2, h3⟩
  · exact Or.inl hv
  · exact Or.inr ⟨g, cap, cur, rfl, h1, by rw [hb.block g (hl g rfl).2]; exact h2, h3⟩
theorem beq_cast (r t : Nat) : ((r : Int) == (t : Int)) = (true && decide (r = t)) := by
  by_cases h : r = t
  · subst h; simp
  · have h2 : (r : Int) ≠ t := by omega
    simp [h, h2]
theorem info50 : (Try.prog.info? 50).map (fun i => (i.zero, i.size, i.bytes)) = some (some (.agg #[.string ⟨#[]⟩, .string ⟨#[]⟩]), 2, 32) := by kernel_rfl

set_option maxHeartbeats 1600000 in
theorem get_any (s : ByteArray) (w : World) (hs : s.size ≤ 140737488351232) :
    Calls Try.prog 23 #[.string s] w fun e w' => ∃ A c, e = .returned (.tuple #[.slice A (getB s).1.length c, .int .i64 ((getB s).2 : Nat)]) ∧ SecsAt w' w'.heap.size A (getB s).1 ∧ Below w.heap.size w w' := by
  obtain ⟨i0, hi, hz0, hz1, hz2⟩ := info_parts info50
  have HI := Lib.hid (And.intro hi (And.intro hz0 (And.intro hz1 hz2)))
  clear hi hz0 hz1 hz2
  by_cases h12 : 12 ≤ s.size
  · have hk0 : ∀ W, _ := fun W => word_in s 8 4 W (by decide) (by decide) (by omega) (by omega)
    have hm := w4_lt s 8
    have hgm := @getB_bad s
    obtain ⟨m, hmd⟩ : ∃ m, m = w4 s 8 := ⟨_, rfl⟩
    rw [show Sec.word s.data.toList 8 4 = m from hmd.symm] at hk0
    rw [← hmd] at hm
    have H0 := Lib.hid (And.intro hmd hk0)
    clear hgm hk0 hmd
    have hf1 := four_size 1
    have k1 := fun W => four_int 1 W (by omega)
    obtain ⟨f1, hf1d⟩ : ∃ f1 : ByteArray, f1 = ⟨(Sec.numB 1 4).toArray⟩ := ⟨_, rfl⟩
    rw [← hf1d] at hf1 k1
    have K1 := Lib.hid (And.intro hf1d k1)
    clear hf1d k1
    by_cases hh : s.extract 0 8 = ⟨#[76, 79, 70, 84]⟩ ++ f1
    · have hq := str_eq' hh
      by_cases h16 : m ≤ 16
      · have hdec : (16 < (m : Int)) = False := eq_false (by omega)
        have HD : HeadIs s := ⟨h12, by rw [hh, K1.out.1], by rw [← H0.out.1]; exact h16⟩
        have HDD := Lib.hid HD
        clear hh HD
        go_enter Try.func23, Try.ntmps23
        go_wp2_with fail
        refine (H0.out.2 w).mono ?_
        rintro e w1 ⟨rfl, rfl⟩
        go_wp2_with fail
        refine wp_region_keeps (Below w.heap.size w) (by kernel_rfl) (by kernel_rfl) (Below.refl _ _).drew (fun _ => ?_)
        repeat (first
          | go_big_quiet_skip
          | (go_big_quiet_want
             go_big_quiet_op
             first
               | go_big_quiet_on
               | (apply Exists.intro
                  refine ⟨fun x => ?_, ?_⟩
                  · first
                      | with_reducible exact Calls.keeps_below (K1.out.2 _)
                  go_big_quiet_on)))
        refine wpQuiet_nil ?_
        rintro _ ⟨x, rfl⟩
        have hx := x.ok
        have hw0 : IntKind.i64.wrap (m : Int) = (m : Int) := IntWalk.i64_in _ (by omega)
        clear hdec hq
        have H1 := Lib.hid hx
        clear hx
        go_wp2_with fail
        go_loopw [6, 7, 8, 34] (fun v r p i wr => ∃ k : Nat, k ≤ m ∧ i = .int .i64 k ∧ ∃ (out : List Sect) (right : Bool) (a : Nat), stG s k = some (out, right, a) ∧ r = .bool right ∧ p = .int .i64 a ∧ wr.ownsRow w.heap.size 50 2 v out.length (secVals out) ∧ Below w.heap.size w wr) (fun _ _ _ i _ => m - (intOf i).toNat)
        case atStart => exact ⟨0, by omega, rfl, [], true, 12, rfl, rfl, rfl, World.ownsRow_nil _ _ _ _, H1.out⟩
        case round =>
          obtain ⟨k, hk, rfl, out, right, a, hst, rfl, rfl, hown, hb⟩ := hrel
          have hfacts := stG_facts hst
          simp only at hfacts
          have ha : a ≤ 140737488351232 := by omega
          by_cases hlt : k < m
          · have hsucc := stG_succ hst
            have hnone : ¬ SecIs s a → getB s = ([], 8) := fun h => getB_none (k := k + 1) (by rw [← H0.out.1]; omega) (by rw [hsucc]; exact if_neg h)
            have HS := Lib.hid (And.intro hst (And.intro hsucc (And.intro hnone (And.intro hown (And.intro hb hfacts)))))
            clear hst hsucc hnone hown hb hfacts
            by_cases h8 : a + 8 ≤ s.size
            · have kw1 := word_in s (a + 4) 4 wr (by decide) (by decide) (by omega) (by omega)
              have hn := w4_lt s (a + 4)
              obtain ⟨n, hnd⟩ : ∃ n, n = w4 s (a + 4) := ⟨_, rfl⟩
              rw [show Sec.word s.data.toList (a + 4) 4 = n from hnd.symm, show ((a + 4 : Nat) : Int) = (a : Int) + 4 by omega] at kw1
              rw [← hnd] at hn
              have KW1 := Lib.hid (And.intro hnd kw1)
              clear hnd kw1
              by_cases h12a : a + 12 ≤ s.size
              · have kw2 := word_in s (a + 8) 4 wr (by decide) (by decide) (by omega) (by omega)
                have hwt := w4_lt s (a + 8)
                obtain ⟨wt, hwtd⟩ : ∃ wt, wt = w4 s (a + 8) := ⟨_, rfl⟩
                rw [show Sec.word s.data.toList (a + 8) 4 = wt from hwtd.symm, show ((a + 8 : Nat) : Int) = (a : Int) + 8 by omega] at kw2
                rw [← hwtd] at hwt
                have KW2 := Lib.hid (And.intro hwtd kw2)
                clear hwtd kw2
                have hwn : IntKind.i64.wrap (n : Int) = (n : Int) := IntWalk.i64_in _ (by omega)
                go_wp2_with fail
                refine KW1.out.2.mono ?_
                rintro e w2 ⟨rfl, rfl⟩
                go_wp2_with fail
                refine KW2.out.2.mono ?_
                rintro e w2 ⟨rfl, rfl⟩
                by_cases hbig : n ≤ 16777216
                · by_cases hfit : a + 12 + n ≤ s.size
                  · have hsl1 : ((a : Int) + 4).toNat = a + 4 := by omega
                    have hsl2 : ((a : Int) + 12).toNat = a + 12 := by omega
                    have hsl3 : ((a : Int) + 12 + n).toNat = a + 12 + n := by omega
                    go_wp2_with fail
                    have hsec : secAt s a = (s.extract a (a + 4), s.extract (a + 12) (a + 12 + n)) := by rw [KW1.out.1]; rfl
                    have hnx := HS.out.2.1
                    rw [show stepG s (out, right, a) = some (out ++ [secAt s a], right && decide (Crc.more 0 (secAt s a).2.data.toList = w4 s (a + 8)), a + 12 + w4 s (a + 4)) from if_pos ⟨h12a, by rw [← KW1.out.1]; exact hbig, by rw [← KW1.out.1]; exact hfit⟩, hsec, ← KW1.out.1, ← KW2.out.1] at hnx
                    have hdz : (s.extract (a + 12) (a + 12 + n)).size ≤ 16777216 := by rw [ByteArray.size_extract]; omega
                    obtain ⟨tg, htg⟩ : ∃ tg, s.extract a (a + 4) = tg := ⟨_, rfl⟩
                    obtain ⟨dt, hdt⟩ : ∃ dt, s.extract (a + 12) (a + 12 + n) = dt := ⟨_, rfl⟩
                    rw [hdt] at hdz
                    rw [htg, hdt] at hnx
                    have HN := Lib.hid hnx
                    clear hnx hsec
                    cases right with
                    | false =>
                      go_region
                      clear hsl1 hsl2 hsl3 htg hdt
                      have hbs : w.heap.size ≤ wr.heap.size := HS.out.2.2.2.2.1.size
                      have hol : out.length = k := HS.out.2.2.2.2.2.1
                      go_wp2_with (at_builtin; go_loud (refine wpList_append_own _ rfl _ _ 35 rfl w.heap.size 50 i0 _ 2 32 Try.underlying35 HI.out.1 HI.out.2.1 HI.out.2.2.1 HI.out.2.2.2 rfl (by decide) _ _ _ rfl (((HS.out.2.2.2.1.alloc _).alloc _).drew) _ 1 1 [.string tg, .string dt] rfl rfl ?c1 ?c2 ?c3 ?c4 ?c5 ?_))
                      case c2 => exact ⟨rfl, rfl⟩
                      case c3 => unfold maxLen; omega
                      case c4 => omega
                      case c5 => omega
                      intro v' w5 hown5 hgrow5 _
                      have hb5 : Below w.heap.size w w5 := (below_drewN' ((HS.out.2.2.2.2.1.alloc hbs _).alloc (by simp; omega) _) 1).grown hgrow5 (by simp; omega) (fun j hj => (HS.out.2.2.2.1.lt j hj).1)
                      have H5 := Lib.hid (And.intro hown5 hb5)
                      clear hown5 hgrow5 hb5 hbs hol
                      set_option maxRecDepth 100000 in
                      go_wp2_with fail
                      go_roundw
                      case rel => exact ⟨k + 1, by omega, by go_num, out ++ [(tg, dt)], false, a + 12 + n, HN.out, rfl, by simp; omega, by rw [secVals_append, List.length_append, HS.out.2.2.2.2.2.1]; exact H5.out.1, H5.out.2⟩
                      case measure => simp [intOf]; omega
                    | true =>
                      go_region
                      clear hsl1 hsl2 hsl3 htg hdt
                      have hbs : w.heap.size ≤ wr.heap.size := HS.out.2.2.2.2.1.size
                      have hol : out.length = k := HS.out.2.2.2.2.2.1
                      have hrl : Crc.more 0 dt.data.toList < 4294967296 := Crc.more_lt _ (by decide)
                      obtain ⟨r, hr⟩ : ∃ r, Crc.more 0 dt.data.toList = r := ⟨_, rfl⟩
                      have kof := fun W => of_any dt W (by omega)
                      rw [hr] at kof hrl
                      have KOF := Lib.hid (And.intro hr kof)
                      clear hr kof
                      have hwr : IntKind.u64.wrap (r : Int) = (r : Int) := IntWalk.u64_in _ (by omega)
                      go_wp2_with fail
                      refine (KOF.out.2 _).mono ?_
                      rintro e w4 ⟨rfl, hb4⟩
                      have hown4 : w4.ownsRow w.heap.size 50 2 u6 out.length (secVals out) := own_keep ((HS.out.2.2.2.1.alloc (.cells #[.string tg, .string dt] 50)).drew) hb4
                      have hc0 : w4.cell? ⟨wr.heap.size, 0, none⟩ = some (.string tg) := (hb4.cell (by simp)).trans (World.cell?_alloc_new wr _ _ _)
                      have hc1 : w4.cell? ⟨wr.heap.size, 1, none⟩ = some (.string dt) := (hb4.cell (by simp)).trans (World.cell?_alloc_new wr _ _ _)
                      have hbs4 : Below w.heap.size w w4 := (below_drewN' (HS.out.2.2.2.2.1.alloc hbs (.cells #[.string tg, .string dt] 50)) 1).trans (hb4.mono (by simp; omega))
                      have hsz4 : w.heap.size ≤ w4.heap.size := hbs4.size
                      have H4 := Lib.hid (And.intro hown4 hbs4)
                      clear hown4 hb4 hbs4 hbs
                      go_wp2_with (at_builtin; go_loud (refine wpList_append_own _ rfl _ _ 35 rfl w.heap.size 50 i0 _ 2 32 Try.underlying35 HI.out.1 HI.out.2.1 HI.out.2.2.1 HI.out.2.2.2 rfl (by decide) _ _ _ rfl (H4.out.1.alloc _) _ 1 1 [.string tg, .string dt] rfl rfl ?d1 ?d2 ?d3 ?d4 ?d5 ?_))
                      case d1 =>
                        intro j u hj
                        rw [add_flat, Nat.zero_add]
                        exact (World.cell?_alloc_new w4 _ _ _).trans (by simpa using hj)
                      case d2 => intro u hu; simp at hu; rcases hu with rfl | rfl <;> rfl
                      case d3 => unfold maxLen; omega
                      case d4 => omega
                      case d5 => simp; omega
                      intro v' w5 hown5 hgrow5 _
                      have hb5 : Below w.heap.size w w5 := (H4.out.2.alloc hsz4 _).grown hgrow5 (by simp; omega) (fun j hj => (H4.out.1.lt j hj).1)
                      have H5 := Lib.hid (And.intro hown5 hb5)
                      clear hown5 hgrow5 hb5 hsz4 hol
                      set_option maxRecDepth 100000 in
                      go_wp2_with fail
                      go_roundw
                      case rel => exact ⟨k + 1, by omega, by go_num, out ++ [(tg, dt)], _, a + 12 + n, HN.out, by rw [KOF.out.1]; exact congrArg Value.bool (beq_cast r wt), by simp; omega, by rw [secVals_append, List.length_append, HS.out.2.2.2.2.2.1]; exact H5.out.1, H5.out.2⟩
                      case measure => simp [intOf]; omega
                  · have HF := Lib.hid (HS.out.2.2.1 fun h => hfit (by rw [KW1.out.1]; exact h.2.2))
                    have hfit2 : (s.size : Int) - a - 12 < n := by omega
                    clear hfit
                    go_wp2_with fail
                    go_ret2
                    exact ⟨none, 0, by rw [HF.out]; rfl, by rw [HF.out]; exact SecsAt.nil _ _ _, HS.out.2.2.2.2.1⟩
                · have HF := Lib.hid (HS.out.2.2.1 fun h => hbig (by rw [KW1.out.1]; exact h.2.1))
                  have hbig2 : (16777216 : Int) < n := by omega
                  clear hbig
                  go_wp2_with fail
                  go_ret2
                  exact ⟨none, 0, by rw [HF.out]; rfl, by rw [HF.out]; exact SecsAt.nil _ _ _, HS.out.2.2.2.2.1⟩
              · have HF := Lib.hid (HS.out.2.2.1 fun h => h12a h.1)
                have kw2 := Lib.hid (word_out s (a + 8) 4 wr (by omega) (by omega))
                clear h12a
                go_wp2_with fail
                refine KW1.out.2.mono ?_
                rintro e w2 ⟨rfl, rfl⟩
                go_wp2_with fail
                refine kw2.out.mono ?_
                rintro e w2 ⟨rfl, rfl⟩
                go_wp2_with fail
                go_ret2
                exact ⟨none, 0, by rw [HF.out]; rfl, by rw [HF.out]; exact SecsAt.nil _ _ _, HS.out.2.2.2.2.1⟩
            · have HF := Lib.hid (HS.out.2.2.1 fun h => h8 (by have := h.1; omega))
              have kw1 := Lib.hid (word_out s (a + 4) 4 wr (by omega) (by omega))
              have kw2 := Lib.hid (word_out s (a + 8) 4 wr (by omega) (by omega))
              clear h8
              go_wp2_with fail
              refine kw1.out.mono ?_
              rintro e w2 ⟨rfl, rfl⟩
              go_wp2_with fail
              refine kw2.out.mono ?_
              rintro e w2 ⟨rfl, rfl⟩
              go_wp2_with fail
              go_ret2
              exact ⟨none, 0, by rw [HF.out]; rfl, by rw [HF.out]; exact SecsAt.nil _ _ _, HS.out.2.2.2.2.1⟩
          · obtain rfl : k = m := by omega
            have HS := Lib.hid (And.intro hst (And.intro hown (And.intro hb hfacts)))
            clear hst hown hb hfacts
            obtain ⟨A, c, rfl, hsec⟩ := SecsAt.of_own HS.out.2.1
            have hlen : out.length = k := HS.out.2.2.2.1
            have HL := Lib.hid hlen
            have hsz1 : ∀ y ∈ out, y.1.size ≤ maxLen := fun y hy => by have := (HS.out.2.2.2.2.2.2 y hy).1; unfold maxLen; omega
            have ktags := tags_any A c out wr hsec (by omega) hsz1
            rw [hlen] at ktags
            have KT := Lib.hid ktags
            clear ktags hsec hsz1
            by_cases hend : a = s.size
            · have hq1 : ((a : Int) != s.size) = false := by simp [hend]
              have HE := Lib.hid hend
              clear hend
              go_wp2_with fail
              refine KT.out.mono ?_
              rintro e w2 ⟨rfl, hb2⟩
              have hb02 : Below w.heap.size w w2 := HS.out.2.2.1.trans (hb2.mono HS.out.2.2.1.size)
              have hsec2 : ∀ w3, w3 = w2 → SecsAt w3 w3.heap.size A out := fun w3 e3 => by
                obtain ⟨A', c', e, h⟩ := SecsAt.of_own (own_keep HS.out.2.1 hb2)
                injection e with e _ _
                rw [e3, e]
                exact h
              have HB := Lib.hid (And.intro hb02 (hsec2 w2 rfl))
              clear hb02 hsec2 hb2
              by_cases htg : TagsOk out
              · rw [tagsB_true htg]
                cases right with
                | true =>
                  have HF := Lib.hid (getB_ok HDD.out (by rw [← H0.out.1]; exact HS.out.1) HE.out htg rfl)
                  clear htg
                  go_wp2_with fail
                  go_ret2
                  exact ⟨A, c, by rw [HF.out, HL.out]; rfl, by rw [HF.out]; exact HB.out.2, HB.out.1⟩
                | false =>
                  have HF := Lib.hid (getB_sum HDD.out (by rw [← H0.out.1]; exact HS.out.1) HE.out htg rfl)
                  clear htg
                  go_wp2_with fail
                  go_ret2
                  exact ⟨none, 0, by rw [HF.out]; rfl, by rw [HF.out]; exact SecsAt.nil _ _ _, HB.out.1⟩
              · rw [tagsB_false htg]
                have HF := Lib.hid (getB_bad (s := s) (by rw [← H0.out.1]; exact HS.out.1) fun h => htg h.2)
                clear htg
                go_wp2_with fail
                go_ret2
                exact ⟨none, 0, by rw [HF.out]; rfl, by rw [HF.out]; exact SecsAt.nil _ _ _, HB.out.1⟩
            · have hq1 : ((a : Int) != s.size) = true := by simp; omega
              have HF := Lib.hid (getB_bad (s := s) (by rw [← H0.out.1]; exact HS.out.1) fun h => hend h.1)
              clear hend
              go_wp2_with fail
              go_ret2
              exact ⟨none, 0, by rw [HF.out]; rfl, by rw [HF.out]; exact SecsAt.nil _ _ _, HS.out.2.2.1⟩
      · have hdec : (16 < (m : Int)) = True := eq_true (by omega)
        have HF := Lib.hid (getB_head (s := s) fun h => h16 (by rw [H0.out.1]; exact h.2.2))
        clear hh h16
        go_enter Try.func23, Try.ntmps23
        go_wp2_with fail
        refine (H0.out.2 w).mono ?_
        rintro e w1 ⟨rfl, rfl⟩
        go_wp2_with fail
        refine wp_region_keeps (Below w.heap.size w) (by kernel_rfl) (by kernel_rfl) (Below.refl _ _).drew (fun _ => ?_)
        repeat (first
          | go_big_quiet_skip
          | (go_big_quiet_want
             go_big_quiet_op
             first
               | go_big_quiet_on
               | (apply Exists.intro
                  refine ⟨fun x => ?_, ?_⟩
                  · first
                      | with_reducible exact Calls.keeps_below (K1.out.2 _)
                  go_big_quiet_on)))
        refine wpQuiet_nil ?_
        rintro _ ⟨x, rfl⟩
        have hx := x.ok
        go_wp2_with fail
        go_ret2
        exact ⟨none, 0, by rw [HF.out]; rfl, by rw [HF.out]; exact SecsAt.nil _ _ _, hx⟩
    · have hq := str_ne' hh
      have HF := Lib.hid (getB_head (s := s) fun h => hh (by rw [K1.out.1]; exact h.2.1))
      clear hh
      go_enter Try.func23, Try.ntmps23
      go_wp2_with fail
      refine (H0.out.2 w).mono ?_
      rintro e w1 ⟨rfl, rfl⟩
      go_wp2_with fail
      refine wp_region_keeps (Below w.heap.size w) (by kernel_rfl) (by kernel_rfl) (Below.refl _ _).drew (fun _ => ?_)
      repeat (first
        | go_big_quiet_skip
        | (go_big_quiet_want
           go_big_quiet_op
           first
             | go_big_quiet_on
             | (apply Exists.intro
                refine ⟨fun x => ?_, ?_⟩
                · first
                    | with_reducible exact Calls.keeps_below (K1.out.2 _)
                go_big_quiet_on)))
      refine wpQuiet_nil ?_
      rintro _ ⟨x, rfl⟩
      have hx := x.ok
      go_wp2_with fail
      go_ret2
      exact ⟨none, 0, by rw [HF.out]; rfl, by rw [HF.out]; exact SecsAt.nil _ _ _, hx⟩
  · have HF := Lib.hid (getB_head (s := s) fun h => h12 h.1)
    go_enter Try.func23, Try.ntmps23
    go_wp2_with fail
    refine (word_out s 8 4 w (by omega) (by omega)).mono ?_
    rintro e w1 ⟨rfl, rfl⟩
    clear h12
    go_wp2_with fail
    go_quiet (fail)
    go_wp2_with fail
    go_ret2
    exact ⟨none, 0, by rw [HF.out]; rfl, by rw [HF.out]; exact SecsAt.nil _ _ _, below_drewN' (Below.refl _ _) _⟩
end Go.Proofs.Ytccdipcneabooaa
