/- The heap: take, Alloc: the walks. The heap: Alloc: the walk. What texts, blobs, nodes and binary trees compute: plain Lean, no program in sight. -/
import Derived.Test.YtepdkbmnkjfcpaaGreatDoorGal
import Derived.Test.YtepdkbmnkjfcpaaGreatDoorGaa
namespace Go.Proofs.YtepdkbmnkjfcpaaGreatDoor
open Go.RowKit Go.BigFrame Go.Maps Go.WideMaps Lf
open Go.Shelf

theorem sizeRes_nat (c : Nat) : ∃ er : Nat, sizeRes c = (classSize c, er) := by
  unfold sizeRes
  by_cases h : c < 8
  · rw [if_pos (by omega), Int.toNat_natCast]; exact ⟨_, rfl⟩
  · rw [if_neg (by omega)]
    refine ⟨2, ?_⟩
    unfold classSize
    rw [List.getD_eq_getElem?_getD, List.getElem?_eq_none (by simp [sizes]; omega)]
    rfl
theorem classSize_le (c : Nat) : classSize c ≤ 28 := by
  by_cases h : c < 8
  · have : ∀ c, c < 8 → classSize c ≤ 28 := by decide
    exact this c h
  · unfold classSize
    rw [List.getD_eq_getElem?_getD, List.getElem?_eq_none (by simp [sizes]; omega)]
    decide
theorem bitSet_lt {w k : Nat} (hw : w < 18446744073709551616) (hk : k < 64) : bitSet w k < 18446744073709551616 := Nat.or_lt_two_pow (n := 64) hw (pow_lt64 hk)

set_option maxRecDepth 100000 in
set_option maxHeartbeats 800000 in
theorem heap_take {w : World} {ph pa pm : Nat} {s : Slab} {Y : Nat → Prop} (h : HeapOn w ph pa pm s Y) (p k : Nat) (hp : p ≤ 1048576) (hk : k < 64) :
    Calls Tryz.prog 176 #[PV ph, .int .i64 p, .int .i64 k] w fun e w' => e = .returned (.int .i64 ((takeH s p k).1 : Nat)) ∧ HeapOn w' ph pa pm (takeH s p k).2 Y ∧ Keep Y w w' := by
  have hgl := getH_lt h p
  have hget := heap_get h p hp
  have ht : takeH s p k = (placeH p (getH s p).n k, clearH (putH s p ⟨(getH s p).kind, (getH s p).n, bitSet (getH s p).w k⟩) (placeH p (getH s p).n k) (classSize (getH s p).n)) := rfl
  rw [ht]
  clear ht
  generalize getH s p = x at *
  obtain ⟨kd, xn, xw⟩ := x
  simp only at hgl hget ⊢
  obtain ⟨hg1, hg2, hg3⟩ := hgl
  have hset := fun W => bits_set xw k W hg3 hk
  have hbl := bitSet_lt hg3 hk
  obtain ⟨er, hse⟩ := sizeRes_nat xn
  have hsz := fun W => class_size xn W
  rw [hse] at hsz
  have hsl := classSize_le xn
  have hpl := fun W => heap_place p xn k W hp (by omega) (by omega)
  have hple : placeH p xn k ≤ 67108926 := by
    have := classPlace_le xn k
    unfold placeH
    omega
  have hput : ∀ W, HeapOn W ph pa pm s Y → _ := fun W hW => heap_put (hW.own (.cells #[.int .i64 kd, .int .i64 xn, .int .u64 (bitSet xw k : Nat)] 204)) p ⟨kd, xn, bitSet xw k⟩ hp hg1 hg2 hbl
  simp only [headV] at hget hput
  generalize bitSet xw k = bs at *
  generalize hz : classSize xn = z at *
  generalize hq : placeH p xn k = q at *
  generalize putH s p ⟨kd, xn, bs⟩ = s1 at *
  have HG := Lib.hid (And.intro hget (And.intro hset (And.intro hsz (And.intro hpl (And.intro hput h)))))
  clear hget hset hsz hpl hput h hse hz hq
  go_enter Tryz.func176, Tryz.ntmps176
  go_wp2_with fail
  refine HG.out.1.mono ?_
  rintro e w1 ⟨rfl, hb1⟩
  have H1 := Lib.hid (And.intro (HG.out.2.2.2.2.2.below hb1) (HG.out.2.2.2.2.2.keep hb1))
  clear hb1
  go_wp2_with fail
  refine (HG.out.2.1 _).mono ?_
  rintro e w2 ⟨rfl, rfl⟩
  go_wp2_with fail
  refine (HG.out.2.2.2.2.1 w1 H1.out.1).mono ?_
  rintro e w3 ⟨rfl, h3, k3⟩
  have hnew : (w1.alloc (.cells #[.int .i64 kd, .int .i64 xn, .int .u64 (bs : Nat)] 204)).heap[w1.heap.size]? = some (.cells #[.int .i64 kd, .int .i64 xn, .int .u64 (bs : Nat)] 204 (0, 0)) := by
    show (w1.heap.push _)[w1.heap.size]? = _; simp
  have b1 : w3.cell? ⟨w1.heap.size, 1, none⟩ = some (.int .i64 xn) := by
    rw [k3.cell (p := ⟨w1.heap.size, 1, none⟩) (Or.inr rfl), cell_of_block hnew]; rfl
  have hka : Keep Y w1 (w1.alloc (.cells #[.int .i64 kd, .int .i64 xn, .int .u64 (bs : Nat)] 204)) := H1.out.1.keep ((Below.refl _ w1).alloc (Nat.le_refl _) _)
  have hlt3 : w1.heap.size < w3.heap.size := h3.yl _ (Or.inr rfl)
  have H3 := Lib.hid (And.intro (h3.mono (fun k hk => Or.inl hk) HG.out.2.2.2.2.2.yh HG.out.2.2.2.2.2.yt) (H1.out.2.trans (hka.trans (k3.mono fun k hk => Or.inl hk))))
  clear h3 k3 hnew hka
  go_wp2_with fail
  refine (HG.out.2.2.1 _).mono ?_
  rintro e w4 ⟨rfl, hb4⟩
  have b1' : w4.cell? ⟨w1.heap.size, 1, none⟩ = some (.int .i64 xn) := (hb4.cell (p := ⟨w1.heap.size, 1, none⟩) hlt3).trans b1
  have H4 := Lib.hid (And.intro (H3.out.1.below hb4) (H3.out.2.trans (H3.out.1.keep hb4)))
  clear hb4 b1
  go_wp2_with fail
  refine (HG.out.2.2.2.1 _).mono ?_
  rintro e w5 ⟨rfl, hb5⟩
  have H5 := Lib.hid (And.intro (H4.out.1.below hb5) (H4.out.2.trans (H4.out.1.keep hb5)))
  clear hb5 b1'
  go_wp2_with fail
  refine (heap_clear H5.out.1 q z (by omega) (by omega)).mono ?_
  rintro e w6 ⟨rfl, h6, k6⟩
  have H6 := Lib.hid (And.intro h6 (H5.out.2.trans k6))
  clear h6 k6
  go_wp2_with fail
  go_ret
  exact ⟨rfl, H6.out⟩
end Go.Proofs.YtepdkbmnkjfcpaaGreatDoor

namespace Go.Proofs.YtepdkbmnkjfcpaaGreatDoor
open Go.RowKit Go.BigFrame Go.Maps Go.WideMaps Lf
open Go.Shelf

theorem mem_headsFrom {s : Slab} {y : Nat × Head} : ∀ (ks : List Nat) (nx : Nat), y ∈ headsFrom s nx ks → y.1 ∈ ks ∧ y.2 = getH s y.1
  | [], _, h => by simp [headsFrom] at h
  | p :: r, nx, h => by
    unfold headsFrom at h
    split at h
    · have := mem_headsFrom r nx h
      exact ⟨List.mem_cons_of_mem _ this.1, this.2⟩
    · rcases List.mem_cons.1 h with rfl | h
      · exact ⟨List.mem_cons_self, rfl⟩
      · have := mem_headsFrom r _ h
        exact ⟨List.mem_cons_of_mem _ this.1, this.2⟩
theorem spotIn_mem {c p k : Nat} : ∀ (q : List (Nat × Head)), spotIn c q = some (p, k) → (∃ x, (p, x) ∈ q ∧ x.kind = 1 ∧ x.n = c ∧ bitFree x.w (classSlots c) = some k)
  | (p', y) :: q, h => by
    have h1 : spotIn c ((p', y) :: q) = if y.kind ≠ 1 ∨ y.n ≠ c then spotIn c q else match bitFree y.w (classSlots c) with | some k => some (p', k) | none => spotIn c q := rfl
    rw [h1] at h
    by_cases hc : y.kind ≠ 1 ∨ y.n ≠ c
    · rw [if_pos hc] at h
      obtain ⟨x, hx, hr⟩ := spotIn_mem q h
      exact ⟨x, List.mem_cons_of_mem _ hx, hr⟩
    · rw [if_neg hc] at h
      have hc1 : y.kind = 1 := by omega
      have hc2 : y.n = c := by omega
      cases hb : bitFree y.w (classSlots c) with
      | some j =>
        rw [hb] at h
        simp only [Option.some.injEq, Prod.mk.injEq] at h
        obtain ⟨rfl, rfl⟩ := h
        exact ⟨y, List.mem_cons_self, hc1, hc2, hb⟩
      | none =>
        rw [hb] at h
        obtain ⟨x, hx, hr⟩ := spotIn_mem q h
        exact ⟨x, List.mem_cons_of_mem _ hx, hr⟩
theorem bitFree_lt {w n k : Nat} (h : bitFree w n = some k) : k < n := by
  unfold bitFree at h
  rw [List.find?_range_eq_some] at h
  simpa using h.2.1
theorem spotH_le {s : Slab} (hw : SlabWF s) {c p k : Nat} (h : spotH s c = some (p, k)) : p ≤ 1048575 ∧ k < 31 := by
  obtain ⟨x, hx, _, _, hb⟩ := spotIn_mem _ h
  have h1 := (mem_headsFrom _ _ hx).1
  have h2 := bitFree_lt hb
  have h3 := classSlots_le c
  exact ⟨hw.top _ h1, by omega⟩
theorem firstRun_le (s : Slab) (n : Nat) : ∀ f p, s.firstRun n f p ≤ p + f
  | 0, p => Nat.le_refl _
  | f + 1, p => by
    unfold Slab.firstRun
    split
    · omega
    · have := firstRun_le s n f (p + 1)
      omega
theorem grant_le {s : Slab} (hw : SlabWF s) {n : Nat} (hn : n ≤ 100) : (s.grant n).1.1 ≤ 409601 := by
  have h1 := hw.room
  have h2 := hw.quota
  have h3 : s.pages.length * n ≤ 4096 * 100 := Nat.mul_le_mul (by omega) hn
  unfold Slab.grant
  split
  · simp
  · split
    · simp
    · have := firstRun_le s n (s.pages.length * n + 1) 0
      simp only
      omega
theorem HeapOn.grant {w : World} {ph pa pm : Nat} {s : Slab} {Y : Nat → Prop} (h : HeapOn w ph pa pm s Y) (n : Nat) (hn : n ≤ 100) :
    Calls Tryz.prog 173 #[PV pa, .int .i64 n] w fun e w' => e = .returned (.tuple #[.int .i64 ((s.grant n).1.1 : Nat), .int .i64 ((s.grant n).1.2 : Nat)]) ∧ HeapOn w' ph pa pm (s.grant n).2 Y ∧ Keep Y w w' := by
  obtain ⟨blk, hs⟩ := h.slab
  refine (slab_grant hs n hn).mono ?_
  rintro e w' ⟨h1, h2, h3⟩
  exact ⟨h1, h.step h2 h3, h3⟩
theorem classOf_lt {n c : Nat} (h : classOf n = some c) : c < 8 := by
  unfold classOf at h
  rw [List.find?_range_eq_some] at h
  simpa using h.2.1
theorem classPages_le {n : Nat} (h : n ≤ 4000) : classPages n ≤ 63 := by
  unfold classPages
  split
  · omega
  · split
    · omega
    · omega

set_option maxRecDepth 100000 in
set_option maxHeartbeats 1600000 in
theorem heap_alloc {w : World} {ph pa pm : Nat} {s : Slab} {Y : Nat → Prop} (h : HeapOn w ph pa pm s Y) (n : Nat) (_ : n ≤ 100000) :
    Calls Tryz.prog 125 #[PV ph, .int .i64 n] w fun e w' => e = .returned (.tuple #[.int .i64 ((allocH s n).1.1 : Nat), .int .i64 ((allocH s n).1.2 : Nat)]) ∧ HeapOn w' ph pa pm (allocH s n).2 Y ∧ Keep Y w w' := by
  have hno := heap_none h
  have hof := fun W => class_of n W
  obtain ⟨R, hR⟩ : ∃ R, allocH s n = R := ⟨_, rfl⟩
  rw [hR]
  rcases ofRes_nat n with ⟨h1, h2, _⟩ | ⟨h1, ⟨c, h2, h3, _⟩ | ⟨h2, h3, h4⟩⟩
  · have hRe : R = ((0, 2), s) := by rw [← hR]; unfold allocH; rw [if_pos h1]
    rw [h2] at hof
    have HG := Lib.hid (And.intro hno (And.intro hof (And.intro hRe h)))
    clear hno hof hRe h hR h1 h2
    go_enter Tryz.func125, Tryz.ntmps125
    go_wp2_with fail
    refine HG.out.1.mono ?_
    rintro e w1 ⟨rfl, rfl⟩
    go_wp2_with fail
    refine (HG.out.2.1 _).mono ?_
    rintro e w2 ⟨rfl, hb2⟩
    have H2 := Lib.hid hb2
    clear hb2
    go_wp2_with fail
    go_ret2
    obtain rfl := HG.out.2.2.1
    exact ⟨rfl, HG.out.2.2.2.below H2.out, HG.out.2.2.2.keep H2.out⟩
  · have hn1 : ¬ (n < 1 ∨ 4000 < n) := by omega
    rw [h3] at hof
    have hc8 := classOf_lt h2
    have hsp := fun W (hW : HeapOn W ph pa pm s Y) => heap_spot hW c (by omega)
    cases hspot : spotH s c with
    | some pk =>
      obtain ⟨p, k⟩ := pk
      have hRe : R = (((takeH s p k).1, 0), (takeH s p k).2) := by rw [← hR]; unfold allocH; rw [if_neg hn1, h2]; simp only [hspot]
      rw [hspot] at hsp
      obtain ⟨hp, hk⟩ := spotH_le h.wf hspot
      have htk := fun W (hW : HeapOn W ph pa pm s Y) => heap_take hW p k (by omega) (by omega)
      generalize takeH s p k = tk at *
      have HG := Lib.hid (And.intro hno (And.intro hof (And.intro hRe (And.intro h (And.intro hsp htk)))))
      clear hno hof hRe h hR h1 h2 h3 hsp htk hspot
      go_enter Tryz.func125, Tryz.ntmps125
      go_wp2_with fail
      refine HG.out.1.mono ?_
      rintro e w1 ⟨rfl, rfl⟩
      go_wp2_with fail
      refine (HG.out.2.1 _).mono ?_
      rintro e w2 ⟨rfl, hb2⟩
      have H2 := Lib.hid (And.intro (HG.out.2.2.2.1.below hb2) (HG.out.2.2.2.1.keep hb2))
      clear hb2
      go_wp2_with fail
      refine (HG.out.2.2.2.2.1 _ H2.out.1).mono ?_
      rintro e w3 ⟨rfl, hb3⟩
      have H3 := Lib.hid (And.intro (H2.out.1.below hb3) (H2.out.2.trans (H2.out.1.keep hb3)))
      clear hb3
      simp only [spotV]
      go_wp2_with fail
      refine (HG.out.2.2.2.2.2 _ H3.out.1).mono ?_
      rintro e w4 ⟨rfl, h4, k4⟩
      have H4 := Lib.hid (And.intro h4 (H3.out.2.trans k4))
      clear h4 k4
      go_wp2_with fail
      go_ret2
      obtain rfl := HG.out.2.2.1
      exact ⟨rfl, H4.out⟩
    | none =>
      rw [hspot] at hsp
      have hgr := fun W (hW : HeapOn W ph pa pm s Y) => hW.grant 1 (by omega)
      have hgl := grant_le h.wf (n := 1) (by omega)
      obtain ⟨⟨⟨gp, ge⟩, gs⟩, hgE⟩ : ∃ g, s.grant 1 = g := ⟨_, rfl⟩
      rw [hgE] at hgr hgl
      simp only at hgr hgl
      cases ge with
      | zero =>
        have hRe : R = (((takeH (putH gs gp ⟨1, c, 0⟩) gp 0).1, 0), (takeH (putH gs gp ⟨1, c, 0⟩) gp 0).2) := by rw [← hR]; unfold allocH; rw [if_neg hn1, h2]; simp only [hspot, hgE]
        have hpu := fun W (hW : HeapOn W ph pa pm gs Y) => heap_put hW gp ⟨1, c, 0⟩ (by omega) (show 1 < 256 by omega) (by simp only; omega) (show 0 < 18446744073709551616 by omega)
        simp only [headV] at hpu
        generalize putH gs gp ⟨1, c, 0⟩ = s2 at *
        have htk := fun W (hW : HeapOn W ph pa pm s2 Y) => heap_take hW gp 0 (by omega) (by omega)
        generalize takeH s2 gp 0 = tk at *
        have HG := Lib.hid (And.intro hno (And.intro hof (And.intro hRe (And.intro h (And.intro hsp (And.intro hgr (And.intro hpu htk)))))))
        clear hno hof hRe h hR h1 h2 h3 hsp htk hspot hgr hpu hgE
        go_enter Tryz.func125, Tryz.ntmps125
        go_wp2_with fail
        refine HG.out.1.mono ?_
        rintro e w1 ⟨rfl, rfl⟩
        go_wp2_with fail
        refine (HG.out.2.1 _).mono ?_
        rintro e w2 ⟨rfl, hb2⟩
        have H2 := Lib.hid (And.intro (HG.out.2.2.2.1.below hb2) (HG.out.2.2.2.1.keep hb2))
        clear hb2
        go_wp2_with fail
        refine (HG.out.2.2.2.2.1 _ H2.out.1).mono ?_
        rintro e w3 ⟨rfl, hb3⟩
        have H3 := Lib.hid (And.intro (H2.out.1.below hb3) (H2.out.2.trans (H2.out.1.keep hb3)))
        have c3 := H3.out.1.cell
        clear hb3
        simp only [spotV]
        go_wp2_with fail
        refine (HG.out.2.2.2.2.2.1 _ H3.out.1).mono ?_
        rintro e w4 ⟨rfl, h4, k4⟩
        have H4 := Lib.hid (And.intro h4 (H3.out.2.trans k4))
        clear h4 k4 c3
        go_wp2_with fail
        refine (HG.out.2.2.2.2.2.2.1 _ H4.out.1).mono ?_
        rintro e w5 ⟨rfl, h5, k5⟩
        have H5 := Lib.hid (And.intro h5 (H4.out.2.trans k5))
        clear h5 k5
        go_wp2_with fail
        refine (HG.out.2.2.2.2.2.2.2 _ H5.out.1).mono ?_
        rintro e w6 ⟨rfl, h6, k6⟩
        have H6 := Lib.hid (And.intro h6 (H5.out.2.trans k6))
        clear h6 k6
        go_wp2_with fail
        go_ret2
        obtain rfl := HG.out.2.2.1
        exact ⟨rfl, H6.out⟩
      | succ ge =>
        have hRe : R = ((0, ge + 1), gs) := by rw [← hR]; unfold allocH; rw [if_neg hn1, h2]; simp only [hspot, hgE]
        have hq1 : (((ge + 1 : Nat) : Int) != 0) = true := by simp; omega
        obtain ⟨g1, hg1⟩ : ∃ g1, ge + 1 = g1 := ⟨_, rfl⟩
        rw [hg1] at hgr hRe hq1
        have hq2 : ¬ (g1 : Int) = 0 := by omega
        have HG := Lib.hid (And.intro hno (And.intro hof (And.intro hRe (And.intro h (And.intro hsp hgr)))))
        clear hno hof hRe h hR h1 h2 h3 hsp hspot hgr hgE hg1
        go_enter Tryz.func125, Tryz.ntmps125
        go_wp2_with fail
        refine HG.out.1.mono ?_
        rintro e w1 ⟨rfl, rfl⟩
        go_wp2_with fail
        refine (HG.out.2.1 _).mono ?_
        rintro e w2 ⟨rfl, hb2⟩
        have H2 := Lib.hid (And.intro (HG.out.2.2.2.1.below hb2) (HG.out.2.2.2.1.keep hb2))
        clear hb2
        go_wp2_with fail
        refine (HG.out.2.2.2.2.1 _ H2.out.1).mono ?_
        rintro e w3 ⟨rfl, hb3⟩
        have H3 := Lib.hid (And.intro (H2.out.1.below hb3) (H2.out.2.trans (H2.out.1.keep hb3)))
        have c3 := H3.out.1.cell
        clear hb3
        simp only [spotV]
        go_wp2_with fail
        refine (HG.out.2.2.2.2.2 _ H3.out.1).mono ?_
        rintro e w4 ⟨rfl, h4, k4⟩
        have H4 := Lib.hid (And.intro h4 (H3.out.2.trans k4))
        clear h4 k4 c3
        go_wp2_with fail
        go_ret2
        obtain rfl := HG.out.2.2.1
        exact ⟨rfl, H4.out⟩
  · have hn1 : ¬ (n < 1 ∨ 4000 < n) := by omega
    rw [h3] at hof
    have hpgs := fun W => class_pages n W h1.2 h1.1
    have hcp := classPages_le h1.2
    have hgr := fun W (hW : HeapOn W ph pa pm s Y) => hW.grant (classPages n) (by omega)
    have hgl := grant_le h.wf (n := classPages n) (by omega)
    obtain ⟨np, hnp⟩ : ∃ np, classPages n = np := ⟨_, rfl⟩
    rw [hnp] at hpgs hcp hgr hgl
    obtain ⟨⟨⟨gp, ge⟩, gs⟩, hgE⟩ : ∃ g, s.grant np = g := ⟨_, rfl⟩
    rw [hgE] at hgr hgl
    simp only at hgr hgl
    cases ge with
    | zero =>
      have hRe : R = ((gp * 64 + 2, 0), putH gs gp ⟨2, np, n⟩) := by rw [← hR]; unfold allocH; rw [if_neg hn1, h2, hnp]; simp only [hgE]
      have hpu := fun W (hW : HeapOn W ph pa pm gs Y) => heap_put hW gp ⟨2, np, n⟩ (by omega) (show 2 < 256 by omega) (by simp only; omega) (by simp only; omega)
      simp only [headV] at hpu
      generalize putH gs gp ⟨2, np, n⟩ = s2 at *
      have hn4 : n ≤ 4000 := h1.2
      have HG := Lib.hid (And.intro hno (And.intro hof (And.intro hRe (And.intro h (And.intro hpgs (And.intro hgr hpu))))))
      clear hno hof hRe h hR h1 h2 h3 h4 hpgs hgr hpu hgE hnp
      go_enter Tryz.func125, Tryz.ntmps125
      go_wp2_with fail
      refine HG.out.1.mono ?_
      rintro e w1 ⟨rfl, rfl⟩
      go_wp2_with fail
      refine (HG.out.2.1 _).mono ?_
      rintro e w2 ⟨rfl, hb2⟩
      have H2 := Lib.hid (And.intro (HG.out.2.2.2.1.below hb2) (HG.out.2.2.2.1.keep hb2))
      clear hb2
      go_wp2_with fail
      refine (HG.out.2.2.2.2.1 _).mono ?_
      rintro e w3 ⟨rfl, hb3⟩
      have H3 := Lib.hid (And.intro (H2.out.1.below hb3) (H2.out.2.trans (H2.out.1.keep hb3)))
      have c3 := H3.out.1.cell
      clear hb3
      go_wp2_with fail
      refine (HG.out.2.2.2.2.2.1 _ H3.out.1).mono ?_
      rintro e w4 ⟨rfl, h4, k4⟩
      have H4 := Lib.hid (And.intro h4 (H3.out.2.trans k4))
      clear h4 k4 c3
      go_wp2_with fail
      refine (HG.out.2.2.2.2.2.2 _ H4.out.1).mono ?_
      rintro e w5 ⟨rfl, h5, k5⟩
      have H5 := Lib.hid (And.intro h5 (H4.out.2.trans k5))
      clear h5 k5
      go_wp2_with fail
      go_ret2
      obtain rfl := HG.out.2.2.1
      exact ⟨by simp, H5.out⟩
    | succ ge =>
      have hRe : R = ((0, ge + 1), gs) := by rw [← hR]; unfold allocH; rw [if_neg hn1, h2, hnp]; simp only [hgE]
      have hq1 : (((ge + 1 : Nat) : Int) != 0) = true := by simp; omega
      obtain ⟨g1, hg1⟩ : ∃ g1, ge + 1 = g1 := ⟨_, rfl⟩
      rw [hg1] at hgr hRe hq1
      have hq2 : ¬ (g1 : Int) = 0 := by omega
      have HG := Lib.hid (And.intro hno (And.intro hof (And.intro hRe (And.intro h (And.intro hpgs hgr)))))
      clear hno hof hRe h hR h1 h2 h3 h4 hpgs hgr hgE hnp hg1
      go_enter Tryz.func125, Tryz.ntmps125
      go_wp2_with fail
      refine HG.out.1.mono ?_
      rintro e w1 ⟨rfl, rfl⟩
      go_wp2_with fail
      refine (HG.out.2.1 _).mono ?_
      rintro e w2 ⟨rfl, hb2⟩
      have H2 := Lib.hid (And.intro (HG.out.2.2.2.1.below hb2) (HG.out.2.2.2.1.keep hb2))
      clear hb2
      go_wp2_with fail
      refine (HG.out.2.2.2.2.1 _).mono ?_
      rintro e w3 ⟨rfl, hb3⟩
      have H3 := Lib.hid (And.intro (H2.out.1.below hb3) (H2.out.2.trans (H2.out.1.keep hb3)))
      have c3 := H3.out.1.cell
      clear hb3
      go_wp2_with fail
      refine (HG.out.2.2.2.2.2 _ H3.out.1).mono ?_
      rintro e w4 ⟨rfl, h4, k4⟩
      have H4 := Lib.hid (And.intro h4 (H3.out.2.trans k4))
      clear h4 k4 c3
      go_wp2_with fail
      go_ret2
      obtain rfl := HG.out.2.2.1
      exact ⟨rfl, H4.out⟩
end Go.Proofs.YtepdkbmnkjfcpaaGreatDoor

namespace Go.Proofs.YtepdkbmnkjfcpaaGreatDoor.Lf

/-! ### texts -/
def many (n : Nat) : Nat := if 1000 < n then 0 else 1 + (n + 7) / 8
/-- eight bytes as a word, the first one highest; no byte is 0 -/
def chunk (l : List UInt8) : Nat := (List.range 8).foldl (fun n j => n * 256 + (l.getD j 0).toNat) 0
def chunks (l : List UInt8) (m : Nat) : List Nat := (List.range m).map fun i => chunk (l.drop (8 * i))
def wordsOf (l : List UInt8) : List Nat := l.length :: chunks l ((l.length + 7) / 8)
def bytesOf (ws : List Nat) (n : Nat) : List UInt8 := (List.range n).map fun i => UInt8.ofNat (ws.getD (1 + i / 8) 0 / 256 ^ (7 - i % 8))
def textOf (ws : List Nat) : Option (List UInt8) :=
  match ws with
  | [] => none
  | n :: _ => if 1000 < n ∨ many n ≠ ws.length then none else if wordsOf (bytesOf ws n) = ws then some (bytesOf ws n) else none
/-- -1, 0, 1 -/
def cmpB : List UInt8 → List UInt8 → Int
  | [], [] => 0
  | [], _ :: _ => -1
  | _ :: _, [] => 1
  | a :: l, b :: m => if a < b then -1 else if b < a then 1 else cmpB l m

/-! ### blobs -/
def putWords (s : St) (h : Nat) : Nat → List Nat → St
  | _, [] => s
  | k, w :: r => putWords (s.put h k w).2 h (k + 1) r
def putBlob (s : St) (t : List UInt8) : (Nat × Nat) × St :=
  if 1000 < t.length then ((0, 4), s)
  else match s.make (many t.length) with
    | ((h, 0), s1) => ((h, 0), putWords s1 h 0 (wordsOf t))
    | ((_, e), s1) => ((0, e), s1)
def recWords (s : St) (h : Nat) : List Nat := (List.range (s.len h).1).map fun k => (s.get h k).1
def getBlob (s : St) (h : Nat) : List UInt8 × Nat :=
  match s.len h with
  | (_, 0) => match textOf (recWords s h) with
    | some t => (t, 0)
    | none => ([], 8)
  | (_, e) => ([], e)
def dropBlob (s : St) (h : Nat) : Nat × St :=
  match getBlob s h with
  | (_, 0) => s.drop h
  | (_, e) => (e, s)

/-! ### nodes -/
structure Nd where
  key : Nat
  val : Nat
  left : Nat
  right : Nat
  mark : Nat
  size : Nat
deriving DecidableEq
def Nd.zero : Nd := ⟨0, 0, 0, 0, 0, 0⟩
def askedN (s : St) (h : Nat) : Nat :=
  match s.len h with
  | (n, 0) => if n ≠ 6 then 8 else 0
  | (_, e) => e
def getNode (s : St) (h : Nat) : Nd × Nat :=
  match askedN s h with
  | 0 => (⟨(s.get h 0).1, (s.get h 1).1, (s.get h 2).1, (s.get h 3).1, (s.get h 4).1, (s.get h 5).1⟩, 0)
  | e => (Nd.zero, e)
def putNode (s : St) (h : Nat) (n : Nd) : Nat × St :=
  match askedN s h with
  | 0 => (0, putWords s h 0 [n.key, n.val, n.left, n.right, n.mark, n.size])
  | e => (e, s)
def makeNode (s : St) (n : Nd) : (Nat × Nat) × St :=
  match s.make 6 with
  | ((h, 0), s1) => ((h, (putNode s1 h n).1), (putNode s1 h n).2)
  | ((_, e), s1) => ((0, e), s1)
def dropNode (s : St) (h : Nat) : Nat × St :=
  match askedN s h with
  | 0 => s.drop h
  | e => (e, s)

/-! ### binary trees -/
/-- a word as a number of 64 bits with a sign -/
def toI (w : Nat) : Int := if w < 9223372036854775808 then (w : Int) else (w : Int) - 18446744073709551616
def limit (s : St) : Nat := s.words / 8 + 1
def keyOf (s : St) (n : Nd) : List UInt8 := (getBlob s n.key).1
/-- a tree's size, as a word -/
def sizeT (s : St) (h : Nat) : Nat := (getNode s h).1.size
def markT (s : St) (h : Nat) : Nat := (getNode s h).1.mark
/-- the node of a key (0: none), and how many keys are below, as a word -/
def downT (s : St) (k : List UInt8) : Nat → Nat → Nat → Nat × Nat
  | 0, _, below => (0, below)
  | f + 1, root, below =>
    if root = 0 then (0, below)
    else match getNode s root with
      | (n, 0) =>
        if cmpB k (keyOf s n) < 0 then downT s k f n.left below
        else if 0 < cmpB k (keyOf s n) then downT s k f n.right ((below + sizeT s n.left + 1) % 18446744073709551616)
        else (root, (below + sizeT s n.left) % 18446744073709551616)
      | _ => (0, below)
def atT (s : St) : Nat → Nat → Int → Nat × Nat
  | 0, _, _ => (0, 2)
  | f + 1, root, k =>
    match getNode s root with
    | (n, 0) =>
      if k < toI (sizeT s n.left) then atT s f n.left k
      else if toI (sizeT s n.left) < k then atT s f n.right (k - (toI (sizeT s n.left) + 1))
      else (root, 0)
    | _ => (0, 2)
end Go.Proofs.YtepdkbmnkjfcpaaGreatDoor.Lf
