import Derived.Test.YtcibkdbpicledaaGreatDoorWak
import Derived.Laws.EntriesVeiled
set_option maxRecDepth 100000
set_option maxHeartbeats 6400000
namespace Go.Proofs.YtcibkdbpicledaaGreatDoor
open Go.RowKit Go.BigFrame Go.Maps Go.WideMaps Lf
theorem balanceM_some {S : St} {hh : Nat} {R : Nat × St} (h : balanceM S hh = some R) : R = (hh, S) ∧ ∃ a b, heightM S (getNode S hh).1.left = some a ∧ heightM S (getNode S hh).1.right = some b ∧ a ≤ b + 1 ∧ b ≤ a + 1 := by
 unfold balanceM at h
 split at h
 · rename_i a b h1 h2
   split at h
   · rename_i hc
     exact ⟨(Option.some.inj h).symm, a, b, h1, h2, hc.1, hc.2⟩
   · cases h
 · cases h
theorem avl_balance {w : World} {ps : Nat} {S : St} {Y : Nat → Prop} (h : StOn w ps S Y) (hi : Inv S) (hh : Nat) (hl : hh < 18446744073709551616) {R : Nat × St} (hR : balanceM S hh = some R) :
 Calls Tryz.prog 246 #[PV ps, .int .u64 hh] w fun e w' => e = .returned (.int .u64 hh) ∧ Below w.heap.size w w' := by
 obtain ⟨-, a, b, h1, h2, hab, hba⟩ := balanceM_some hR
 have hg := avl_get h hi hh hl
 have hlt := getNode_lt h hh
 have ha : a < 4611686018427387904 := by have := num_some h1; omega
 have hb : b < 4611686018427387904 := by have := num_some h2; omega
 obtain ⟨⟨⟨k0, k1, k2, k3, k4, k5⟩, er⟩, hE⟩ : ∃ r, getNode S hh = r := ⟨_, rfl⟩
 rw [hE] at hg hlt h1 h2
 simp only [trV] at hg hlt h1 h2
 have hA := fun W (hW : Below w.heap.size w W) => avl_height (h.below hW) hi k2 hlt.left h1
 have hB := fun W (hW : Below w.heap.size w W) => avl_height (h.below hW) hi k3 hlt.right h2
 have d0 : IntKind.i64.wrap ((a : Int) - b) = (a : Int) - b := IntWalk.i64_in _ (by omega)
 have d1 : ((1 : Int) < (a : Int) - b) = False := eq_false (by omega)
 have d2 : ((a : Int) - b < -1) = False := eq_false (by omega)
 have HG := kq3 hg hA hB
 clear hg hA hB h hi hE hlt h1 h2 hR
 go_enter Tryz.func246, Tryz.ntmps246
 go_wp2_with fail
 refine HG.out.1.mono ?_
 rintro e w1 ⟨rfl, hb1⟩
 have q := heap_alloc_new w1 (.cells #[.int .u64 k0, .int .u64 k1, .int .u64 k2, .int .u64 k3, .int .u64 k4, .int .u64 k5, .int .u64 hh] 319)
 have B := hb1.alloc hb1.size (.cells #[.int .u64 k0, .int .u64 k1, .int .u64 k2, .int .u64 k3, .int .u64 k4, .int .u64 k5, .int .u64 hh] 319)
 clear hb1
 go_wp2_with fail
 generalize w1.alloc (.cells #[.int .u64 k0, .int .u64 k1, .int .u64 k2, .int .u64 k3, .int .u64 k4, .int .u64 k5, .int .u64 hh] 319) = W at *
 have ql := (gl q)
 have hx2 : ∀ x : Keeps (Below W.heap.size W), x.to.cell? ⟨w1.heap.size, 2, none⟩ = some (.int .u64 k2) := fun x => by rw [cell_of_block ((x.ok.block _ ql).trans q)]; rfl
 have hx3 : ∀ x : Keeps (Below W.heap.size W), x.to.cell? ⟨w1.heap.size, 3, none⟩ = some (.int .u64 k3) := fun x => by rw [cell_of_block ((x.ok.block _ ql).trans q)]; rfl
 have hA := fun x : Keeps (Below W.heap.size W) => Calls.keeps_below (HG.out.2.1 x.to (B.trans (x.ok.mono B.size)))
 have hB := fun x : Keeps (Below W.heap.size W) => Calls.keeps_below (HG.out.2.2 x.to (B.trans (x.ok.mono B.size)))
 have HB := Lib.hid B
 clear B q
 refine wp_region_keeps (Below W.heap.size W) (by kernel_rfl) (by kernel_rfl) (Below.refl _ _).drew (fun _ => ?_)
 repeat (first | go_big_quiet_skip | (go_big_quiet_want; go_big_quiet_op; first | go_big_quiet_on | (apply Exists.intro; refine ⟨fun x => ?_, ?_⟩; (· first | with_reducible exact hA x | with_reducible exact hB x); go_big_quiet_on)))
 refine wpQuiet_nil ?_
 rintro _ ⟨x, rfl⟩
 have HX := Lib.hid (HB.out.trans (x.ok.mono HB.out.size))
 clear hA hB
 go_wp2_with fail
 go_ret
 exact ⟨rfl, HX.out⟩
theorem joinM_inv (n : Nd) (m : Nat) : ∀ (f : Nat) {S S' : St} {l r x : Nat}, Inv S → joinM n m f S l r = some (x, S') → Inv S' ∧ (x = m ∨ x = l ∨ x = r)
 | 0, S, S', l, r, x, hi, hj => by
  rw [joinM_zero] at hj
  obtain ⟨S1, h1, h2⟩ := Option.map_eq_some_iff.1 hj
  injection h2 with e1 e2
  subst e1 e2
  exact ⟨withM_inv hi h1, Or.inl rfl⟩
 | f + 1, S, S', l, r, x, hi, hj => by
  rw [joinM_succ] at hj
  split at hj
  · split at hj
    · split at hj
      · cases hj
      · rename_i x1 S1 h1
        split at hj
        · cases hj
        · rename_i S2 h2
          have := (balanceM_some hj).1
          injection this with e1 e2
          subst e1 e2
          exact ⟨withM_inv (joinM_inv n m f hi h1).1 h2, Or.inr (Or.inl rfl)⟩
    · split at hj
      · split at hj
        · cases hj
        · rename_i x1 S1 h1
          split at hj
          · cases hj
          · rename_i S2 h2
            have := (balanceM_some hj).1
            injection this with e1 e2
            subst e1 e2
            exact ⟨withM_inv (joinM_inv n m f hi h1).1 h2, Or.inr (Or.inr rfl)⟩
      · obtain ⟨S1, h1, h2⟩ := Option.map_eq_some_iff.1 hj
        injection h2 with e1 e2
        subst e1 e2
        exact ⟨withM_inv hi h1, Or.inl rfl⟩
  · cases hj
theorem avl_join {ps : Nat} (n : Nd) (hn : NdLt n) (m : Nat) (hm : m < 18446744073709551616) : ∀ (f d : Nat), d + f = 100 → ∀ {w : World} {S S' : St} {Y : Nat → Prop} {l r x : Nat}, StOn w ps S Y → Inv S → l < 18446744073709551616 → r < 18446744073709551616 →
 joinM n m f S l r = some (x, S') →
 Calls Tryz.prog 219 #[PV ps, .int .u64 l, .int .u64 r, trV n m, .int .i64 d] w fun e w' => e = .returned (.int .u64 x) ∧ StOn w' ps S' Y ∧ Keep Y w w' := by
 intro f
 induction f with
 | zero =>
  intro d hd w S S' Y l r x h hi hl hr hj
  obtain rfl : d = 100 := by omega
  rw [joinM_zero] at hj
  obtain ⟨S1, h1, h2⟩ := Option.map_eq_some_iff.1 hj
  injection h2 with e1 e2
  subst e1 e2
  obtain ⟨a, b, -, -, ha, hb, -, -, -⟩ := withM_some h1
  have hA := fun W (hW : Below w.heap.size w W) => avl_height (h.below hW) hi l hl ha
  have hB := fun W (hW : Below w.heap.size w W) => avl_height (h.below hW) hi r hr hb
  have hW := fun W Z (hW : StOn W ps S Z) => avl_with hW hi n hn m l r hm hl hr h1
  obtain ⟨k0, k1, k2, k3, k4, k5⟩ := n
  simp only [trV] at hW ⊢
  have q0 := heap_alloc_new w (.cells #[.int .u64 k0, .int .u64 k1, .int .u64 k2, .int .u64 k3, .int .u64 k4, .int .u64 k5, .int .u64 m] 319)
  have B0 := (Below.refl w.heap.size w).alloc (Nat.le_refl _) (.cells #[.int .u64 k0, .int .u64 k1, .int .u64 k2, .int .u64 k3, .int .u64 k4, .int .u64 k5, .int .u64 m] 319)
  have HG := kq6 hA hB hW h q0 B0
  clear hA hB hW h hi hj h1 ha hb q0 B0 hd hn
  go_enter Tryz.func219, Tryz.ntmps219
  go_wp2_with fail
  refine (HG.out.1 _ HG.out.2.2.2.2.2).mono ?_
  rintro e w1 ⟨rfl, hb1⟩
  have H1 := kq2 (HG.out.2.2.2.2.2.trans (hb1.mono HG.out.2.2.2.2.2.size)) ((hb1.block w.heap.size (by simp)).trans HG.out.2.2.2.2.1)
  clear hb1
  go_wp2_with fail
  refine (HG.out.2.1 _ H1.out.1).mono ?_
  rintro e w2 ⟨rfl, hb2⟩
  have r2 := (hb2.block w.heap.size (gl H1.out.2)).trans H1.out.2
  obtain ⟨c0, c1, c2, c3, c4, c5, c6⟩ := cells7 r2
  have H2 := Lib.hid (H1.out.1.trans (hb2.mono H1.out.1.size))
  clear hb2 r2
  go_wp2_with fail
  refine (HG.out.2.2.1 _ _ (HG.out.2.2.2.1.below H2.out)).mono ?_
  rintro e w3 ⟨rfl, h3, k3'⟩
  have H3 := kq2 h3 ((Keep.of_below H2.out HG.out.2.2.2.1.yl).trans k3')
  clear h3 k3'
  go_wp2_with fail
  go_ret
  exact ⟨rfl, H3.out⟩
 | succ f ih =>
  intro d hd w S S' Y l r x h hi hl hr hj
  have hx := (joinM_inv n m (f + 1) hi hj).2
  rw [joinM_succ] at hj
  split at hj
  case h_2 => cases hj
  rename_i a b ha hb
  have hal : a < 4611686018427387904 := by have := num_some ha; omega
  have hbl : b < 4611686018427387904 := by have := num_some hb; omega
  have hA := fun W (hW : Below w.heap.size w W) => avl_height (h.below hW) hi l hl ha
  have hB := fun W (hW : Below w.heap.size w W) => avl_height (h.below hW) hi r hr hb
  have hdq : ((d : Int) == 100) = false := by simp; omega
  split at hj
  · rename_i hba
    have hq1 : ((b : Int) + 1 < a) = True := eq_true (by omega)
    split at hj
    · cases hj
    rename_i x1 S1 hj1
    split at hj
    · cases hj
    rename_i S2 hj2
    have hbe := (balanceM_some hj).1
    injection hbe with e1 e2
    subst e2
    rw [e1] at hj ⊢
    obtain ⟨hi1, hx1⟩ := joinM_inv n m f hi hj1
    have hi2 := withM_inv hi1 hj2
    have hgl := getNode_lt h l
    have hx1l : x1 < 18446744073709551616 := by have := hgl.right; rcases hx1 with e | e | e <;> omega
    have hg := fun W (hW : Below w.heap.size w W) => avl_get (h.below hW) hi l hl
    have cr := fun W Z (hW : StOn W ps S Z) => ih (d + 1) (by omega) hW hi hgl.right hr hj1
    have cw := fun W Z (hW : StOn W ps S1 Z) => avl_with hW hi1 (getNode S l).1 hgl l (getNode S l).1.left x1 hl hgl.left hx1l hj2
    have cb := fun W Z (hW : StOn W ps S' Z) => avl_balance hW hi2 _ hl hj
    obtain ⟨⟨⟨g0, g1, g2, g3, g4, g5⟩, er⟩, hE⟩ : ∃ r, getNode S l = r := ⟨_, rfl⟩
    rw [hE] at hg cr cw
    obtain ⟨k0, k1, k2, k3, k4, k5⟩ := n
    simp only [trV] at hg cr cw ⊢
    have hdw : IntKind.i64.wrap ((d : Int) + 1) = (d : Int) + 1 := IntWalk.i64_in _ (by omega)
    have q0 := heap_alloc_new w (.cells #[.int .u64 k0, .int .u64 k1, .int .u64 k2, .int .u64 k3, .int .u64 k4, .int .u64 k5, .int .u64 m] 319)
    have B0 := (Below.refl w.heap.size w).alloc (Nat.le_refl _) (.cells #[.int .u64 k0, .int .u64 k1, .int .u64 k2, .int .u64 k3, .int .u64 k4, .int .u64 k5, .int .u64 m] 319)
    have HG := kq9 hA hB hg h q0 B0 cr cw cb
    clear hA hB hg cr cw cb h hi hi1 hi2 hj hj1 hj2 ha hb q0 B0 ih hn hgl hx hx1 hE e1
    go_enter Tryz.func219, Tryz.ntmps219
    go_wp2_with fail
    refine (HG.out.1 _ HG.out.2.2.2.2.2.1).mono ?_
    rintro e w1 ⟨rfl, hb1⟩
    have H1 := kq2 (HG.out.2.2.2.2.2.1.trans (hb1.mono HG.out.2.2.2.2.2.1.size)) ((hb1.block w.heap.size (by simp)).trans HG.out.2.2.2.2.1)
    clear hb1
    go_wp2_with fail
    refine (HG.out.2.1 _ H1.out.1).mono ?_
    rintro e w2 ⟨rfl, hb2⟩
    have H2 := kq2 (H1.out.1.trans (hb2.mono H1.out.1.size)) ((hb2.block w.heap.size (gl H1.out.2)).trans H1.out.2)
    clear hb2
    go_wp2_with fail
    refine (HG.out.2.2.1 _ H2.out.1).mono ?_
    rintro e w3 ⟨rfl, hb3⟩
    have r3 := (hb3.block w.heap.size (gl H2.out.2)).trans H2.out.2
    have B3 := H2.out.1.trans (hb3.mono H2.out.1.size)
    have q4 := heap_alloc_new w3 (.cells #[.int .u64 g0, .int .u64 g1, .int .u64 g2, .int .u64 g3, .int .u64 g4, .int .u64 g5, .int .u64 l] 319)
    have r4 := (((Below.refl w3.heap.size w3).alloc (Nat.le_refl _) (.cells #[.int .u64 g0, .int .u64 g1, .int .u64 g2, .int .u64 g3, .int .u64 g4, .int .u64 g5, .int .u64 l] 319)).block w.heap.size (gl r3)).trans r3
    have B4 := B3.alloc B3.size (.cells #[.int .u64 g0, .int .u64 g1, .int .u64 g2, .int .u64 g3, .int .u64 g4, .int .u64 g5, .int .u64 l] 319)
    clear hb3 r3
    have hsz := B3.size
    go_wp2_with fail
    generalize w3.alloc (.cells #[.int .u64 g0, .int .u64 g1, .int .u64 g2, .int .u64 g3, .int .u64 g4, .int .u64 g5, .int .u64 l] 319) = W at *
    generalize w3.heap.size = b13 at *
    have lt8 := (gl r4)
    have lt13 := (gl q4)
    have zw := HG.out.2.2.2.1.wide B4
    have HZ := kq5 zw r4 q4 B4 hsz
    obtain ⟨I, hIi, hIo⟩ : ∃ I : World → Prop, (∀ w', I w' → w'.heap[w.heap.size]? = some (.cells #[.int .u64 k0, .int .u64 k1, .int .u64 k2, .int .u64 k3, .int .u64 k4, .int .u64 k5, .int .u64 m] 319) ∧ w'.heap[b13]? = some (.cells #[.int .u64 g0, .int .u64 g1, .int .u64 g2, .int .u64 g3, .int .u64 g4, .int .u64 g5, .int .u64 l] 319)) ∧ (∀ w', w'.heap[w.heap.size]? = some (.cells #[.int .u64 k0, .int .u64 k1, .int .u64 k2, .int .u64 k3, .int .u64 k4, .int .u64 k5, .int .u64 m] 319) → w'.heap[b13]? = some (.cells #[.int .u64 g0, .int .u64 g1, .int .u64 g2, .int .u64 g3, .int .u64 g4, .int .u64 g5, .int .u64 l] 319) → I w') := ⟨fun w' => w'.heap[w.heap.size]? = some (.cells #[.int .u64 k0, .int .u64 k1, .int .u64 k2, .int .u64 k3, .int .u64 k4, .int .u64 k5, .int .u64 m] 319) ∧ w'.heap[b13]? = some (.cells #[.int .u64 g0, .int .u64 g1, .int .u64 g2, .int .u64 g3, .int .u64 g4, .int .u64 g5, .int .u64 l] 319), fun _ h => h, fun _ a b => ⟨a, b⟩⟩
    have hy0 := fun x : Keeps I => (hIi _ x.ok).1
    have hz0 := fun x : Keeps I => (hIi _ x.ok).2
    obtain ⟨y0, y1, y2, y3, y4, y5, y6⟩ := cellsX7 hy0
    obtain ⟨z0, z1, z2, z3, z4, z5, z6⟩ := cellsX7 hz0
    have HI := Lib.hid hIo
    have hI0 : I W.drew := hIo _ r4 q4
    clear hy0 hz0 q4 r4 zw B4 hsz hIi hIo
    refine wp_region_held_tail I [0, 1, 2, 3, 4, 5, 6, 7, 8, 9, 10, 11, 12, 13] [14, 15, 16, 17] (by kernel_rfl) (by kernel_rfl) hI0 ?_
    refine' wpHeld_cons _ (by rfl) _ (by rfl) ?_ ?_
    rotate_left
    · rintro _ ⟨x, rfl⟩
      have hxy0 := y0 x
      have hxy1 := y1 x
      have hxy2 := y2 x
      have hxy3 := y3 x
      have hxy4 := y4 x
      have hxy5 := y5 x
      have hxy6 := y6 x
      have hxz0 := z0 x
      have hxz1 := z1 x
      have hxz2 := z2 x
      have hxz3 := z3 x
      have hxz4 := z4 x
      have hxz5 := z5 x
      have hxz6 := z6 x
      go_simp
      try with_reducible rfl
    simp only [pu]
    refine' wpHeld_cons _ (by rfl) _ (by rfl) ?_ ?_
    rotate_left
    · rintro _ ⟨x, rfl⟩
      have hxy0 := y0 x
      have hxy1 := y1 x
      have hxy2 := y2 x
      have hxy3 := y3 x
      have hxy4 := y4 x
      have hxy5 := y5 x
      have hxy6 := y6 x
      have hxz0 := z0 x
      have hxz1 := z1 x
      have hxz2 := z2 x
      have hxz3 := z3 x
      have hxz4 := z4 x
      have hxz5 := z5 x
      have hxz6 := z6 x
      go_simp
      try with_reducible rfl
    simp only [pu]
    refine' wpHeld_cons _ (by rfl) _ (by rfl) ?_ ?_
    rotate_left
    · rintro _ ⟨x, rfl⟩
      have hxy0 := y0 x
      have hxy1 := y1 x
      have hxy2 := y2 x
      have hxy3 := y3 x
      have hxy4 := y4 x
      have hxy5 := y5 x
      have hxy6 := y6 x
      have hxz0 := z0 x
      have hxz1 := z1 x
      have hxz2 := z2 x
      have hxz3 := z3 x
      have hxz4 := z4 x
      have hxz5 := z5 x
      have hxz6 := z6 x
      go_simp
      try with_reducible rfl
    simp only [pu]
    refine' wpHeld_cons _ (by rfl) _ (by rfl) ?_ ?_
    rotate_left
    · rintro _ ⟨x, rfl⟩
      have hxy0 := y0 x
      have hxy1 := y1 x
      have hxy2 := y2 x
      have hxy3 := y3 x
      have hxy4 := y4 x
      have hxy5 := y5 x
      have hxy6 := y6 x
      have hxz0 := z0 x
      have hxz1 := z1 x
      have hxz2 := z2 x
      have hxz3 := z3 x
      have hxz4 := z4 x
      have hxz5 := z5 x
      have hxz6 := z6 x
      go_simp
      try with_reducible rfl
    simp only [pu]
    refine' wpHeld_cons _ (by rfl) _ (by rfl) ?_ ?_
    rotate_left
    · rintro _ ⟨x, rfl⟩
      have hxy0 := y0 x
      have hxy1 := y1 x
      have hxy2 := y2 x
      have hxy3 := y3 x
      have hxy4 := y4 x
      have hxy5 := y5 x
      have hxy6 := y6 x
      have hxz0 := z0 x
      have hxz1 := z1 x
      have hxz2 := z2 x
      have hxz3 := z3 x
      have hxz4 := z4 x
      have hxz5 := z5 x
      have hxz6 := z6 x
      go_simp
      try with_reducible rfl
    simp only [pu]
    refine' wpHeld_cons _ (by rfl) _ (by rfl) ?_ ?_
    rotate_left
    · rintro _ ⟨x, rfl⟩
      have hxy0 := y0 x
      have hxy1 := y1 x
      have hxy2 := y2 x
      have hxy3 := y3 x
      have hxy4 := y4 x
      have hxy5 := y5 x
      have hxy6 := y6 x
      have hxz0 := z0 x
      have hxz1 := z1 x
      have hxz2 := z2 x
      have hxz3 := z3 x
      have hxz4 := z4 x
      have hxz5 := z5 x
      have hxz6 := z6 x
      go_simp
      try with_reducible rfl
    simp only [pu]
    refine' wpHeld_cons _ (by rfl) _ (by rfl) ?_ ?_
    rotate_left
    · rintro _ ⟨x, rfl⟩
      have hxy0 := y0 x
      have hxy1 := y1 x
      have hxy2 := y2 x
      have hxy3 := y3 x
      have hxy4 := y4 x
      have hxy5 := y5 x
      have hxy6 := y6 x
      have hxz0 := z0 x
      have hxz1 := z1 x
      have hxz2 := z2 x
      have hxz3 := z3 x
      have hxz4 := z4 x
      have hxz5 := z5 x
      have hxz6 := z6 x
      go_simp
      try with_reducible rfl
    simp only [pu]
    refine' wpHeld_cons _ (by rfl) _ (by rfl) ?_ ?_
    rotate_left
    · rintro _ ⟨x, rfl⟩
      have hxy0 := y0 x
      have hxy1 := y1 x
      have hxy2 := y2 x
      have hxy3 := y3 x
      have hxy4 := y4 x
      have hxy5 := y5 x
      have hxy6 := y6 x
      have hxz0 := z0 x
      have hxz1 := z1 x
      have hxz2 := z2 x
      have hxz3 := z3 x
      have hxz4 := z4 x
      have hxz5 := z5 x
      have hxz6 := z6 x
      go_simp
      try with_reducible rfl
    simp only [pu]
    refine' wpHeld_cons _ (by rfl) _ (by rfl) ?_ ?_
    rotate_left
    · rintro _ ⟨x, rfl⟩
      have hxy0 := y0 x
      have hxy1 := y1 x
      have hxy2 := y2 x
      have hxy3 := y3 x
      have hxy4 := y4 x
      have hxy5 := y5 x
      have hxy6 := y6 x
      have hxz0 := z0 x
      have hxz1 := z1 x
      have hxz2 := z2 x
      have hxz3 := z3 x
      have hxz4 := z4 x
      have hxz5 := z5 x
      have hxz6 := z6 x
      go_simp
      try with_reducible rfl
    simp only [pu]
    refine' wpHeld_cons _ (by rfl) _ (by rfl) ?_ ?_
    rotate_left
    · rintro _ ⟨x, rfl⟩
      have hxy0 := y0 x
      have hxy1 := y1 x
      have hxy2 := y2 x
      have hxy3 := y3 x
      have hxy4 := y4 x
      have hxy5 := y5 x
      have hxy6 := y6 x
      have hxz0 := z0 x
      have hxz1 := z1 x
      have hxz2 := z2 x
      have hxz3 := z3 x
      have hxz4 := z4 x
      have hxz5 := z5 x
      have hxz6 := z6 x
      go_simp
      try with_reducible rfl
    simp only [pu]
    refine' wpHeld_cons _ (by rfl) _ (by rfl) ?_ ?_
    rotate_left
    · rintro _ ⟨x, rfl⟩
      have hxy0 := y0 x
      have hxy1 := y1 x
      have hxy2 := y2 x
      have hxy3 := y3 x
      have hxy4 := y4 x
      have hxy5 := y5 x
      have hxy6 := y6 x
      have hxz0 := z0 x
      have hxz1 := z1 x
      have hxz2 := z2 x
      have hxz3 := z3 x
      have hxz4 := z4 x
      have hxz5 := z5 x
      have hxz6 := z6 x
      go_simp
      try with_reducible rfl
    simp only [pu]
    refine' wpHeld_cons _ (by rfl) _ (by rfl) ?_ ?_
    rotate_left
    · rintro _ ⟨x, rfl⟩
      have hxy0 := y0 x
      have hxy1 := y1 x
      have hxy2 := y2 x
      have hxy3 := y3 x
      have hxy4 := y4 x
      have hxy5 := y5 x
      have hxy6 := y6 x
      have hxz0 := z0 x
      have hxz1 := z1 x
      have hxz2 := z2 x
      have hxz3 := z3 x
      have hxz4 := z4 x
      have hxz5 := z5 x
      have hxz6 := z6 x
      go_simp
      try with_reducible rfl
    simp only [pu]
    refine' wpHeld_cons _ (by rfl) _ (by rfl) ?_ ?_
    rotate_left
    · rintro _ ⟨x, rfl⟩
      have hxy0 := y0 x
      have hxy1 := y1 x
      have hxy2 := y2 x
      have hxy3 := y3 x
      have hxy4 := y4 x
      have hxy5 := y5 x
      have hxy6 := y6 x
      have hxz0 := z0 x
      have hxz1 := z1 x
      have hxz2 := z2 x
      have hxz3 := z3 x
      have hxz4 := z4 x
      have hxz5 := z5 x
      have hxz6 := z6 x
      go_simp
      try with_reducible rfl
    simp only [pu]
    refine' wpHeld_cons _ (by rfl) _ (by rfl) ?_ ?_
    rotate_left
    · rintro _ ⟨x, rfl⟩
      have hxy0 := y0 x
      have hxy1 := y1 x
      have hxy2 := y2 x
      have hxy3 := y3 x
      have hxy4 := y4 x
      have hxy5 := y5 x
      have hxy6 := y6 x
      have hxz0 := z0 x
      have hxz1 := z1 x
      have hxz2 := z2 x
      have hxz3 := z3 x
      have hxz4 := z4 x
      have hxz5 := z5 x
      have hxz6 := z6 x
      go_simp
      try with_reducible rfl
    simp only [pu]
    refine wpHeld_nil ?_
    clear y0 y1 y2 y3 y4 y5 y6 z0 z1 z2 z3 z4 z5 z6
    refine wpSeqH_cons _ (by rfl) (by rfl) (fun K hK => ?_)
    go_simp
    refine (HG.out.2.2.2.2.2.2.1 _ _ (HZ.out.1.below (Below.refl _ _).drew)).mono ?_
    rintro e w5 ⟨rfl, h5, k5'⟩
    have u5 : w5.heap[w.heap.size]? = _ := (k5'.block _ (Or.inr ⟨Nat.le_refl _, lt8⟩)).trans HZ.out.2.1
    have v5 : w5.heap[b13]? = _ := (k5'.block _ (Or.inr ⟨HZ.out.2.2.2.2, lt13⟩)).trans HZ.out.2.2.1
    have H5 := kq4 h5 k5' u5 v5
    clear h5 k5' u5 v5
    try go_simp
    refine hK.out _ _ (HI.out _ H5.out.2.2.1 H5.out.2.2.2) ?_
    clear hK K
    try simp only [pu]
    refine wpSeqH_cons _ (by rfl) (by rfl) (fun K hK => ?_)
    go_simp
    refine (HG.out.2.2.2.2.2.2.2.1 _ _ H5.out.1).mono ?_
    rintro e w6 ⟨rfl, h6, k6'⟩
    have u6 : w6.heap[w.heap.size]? = _ := (k6'.block _ (Or.inr ⟨Nat.le_refl _, lt8⟩)).trans H5.out.2.2.1
    have v6 : w6.heap[b13]? = _ := (k6'.block _ (Or.inr ⟨HZ.out.2.2.2.2, lt13⟩)).trans H5.out.2.2.2
    have H6 := kq4 h6 (H5.out.2.1.trans k6') u6 v6
    clear h6 k6' u6 v6
    try go_simp
    refine hK.out _ _ (HI.out _ H6.out.2.2.1 H6.out.2.2.2) ?_
    clear hK K
    try simp only [pu]
    refine wpSeqH_cons _ (by rfl) (by rfl) (fun K hK => ?_)
    go_simp
    refine (HG.out.2.2.2.2.2.2.2.2 _ _ H6.out.1).mono ?_
    rintro e w7 ⟨rfl, hb7⟩
    have l6 := (gl H6.out.2.2.1)
    have l6' := (gl H6.out.2.2.2)
    have u7 : w7.heap[w.heap.size]? = _ := (hb7.block _ l6).trans H6.out.2.2.1
    have v7 : w7.heap[b13]? = _ := (hb7.block _ l6').trans H6.out.2.2.2
    have H7 := kq4 (H6.out.1.below hb7) (H6.out.2.1.trans (H6.out.1.keep hb7)) u7 v7
    clear hb7 u7 v7 l6 l6'
    try go_simp
    refine hK.out _ _ (HI.out _ H7.out.2.2.1 H7.out.2.2.2) ?_
    clear hK K
    try simp only [pu]
    refine wpSeqH_cons _ (by rfl) (by rfl) (fun K hK => ?_)
    try go_simp
    refine hK.out _ _ (HI.out _ H7.out.2.2.1 H7.out.2.2.2) ?_
    clear hK K
    try simp only [pu]
    refine wpSeqH_nil ?_
    go_wp2_with fail
    go_ret
    exact ⟨rfl, H7.out.1.mono fun k hk => Or.inl hk, (Keep.of_below HZ.out.2.2.2.1.drew HG.out.2.2.2.1.yl).trans (H7.out.2.1.mono fun k hk => Or.inl hk)⟩
  · split at hj
    · rename_i hab
      have hq1 : ((b : Int) + 1 < a) = False := eq_false (by omega)
      have hq2 : ((a : Int) + 1 < b) = True := eq_true (by omega)
      split at hj
      · cases hj
      rename_i x1 S1 hj1
      split at hj
      · cases hj
      rename_i S2 hj2
      have hbe := (balanceM_some hj).1
      injection hbe with e1 e2
      subst e2
      rw [e1] at hj ⊢
      obtain ⟨hi1, hx1⟩ := joinM_inv n m f hi hj1
      have hi2 := withM_inv hi1 hj2
      have hgl := getNode_lt h r
      have hx1l : x1 < 18446744073709551616 := by have := hgl.left; rcases hx1 with e | e | e <;> omega
      have hg := fun W (hW : Below w.heap.size w W) => avl_get (h.below hW) hi r hr
      have cr := fun W Z (hW : StOn W ps S Z) => ih (d + 1) (by omega) hW hi hl hgl.left hj1
      have cw := fun W Z (hW : StOn W ps S1 Z) => avl_with hW hi1 (getNode S r).1 hgl r x1 (getNode S r).1.right hr hx1l hgl.right hj2
      have cb := fun W Z (hW : StOn W ps S' Z) => avl_balance hW hi2 _ hr hj
      obtain ⟨⟨⟨g0, g1, g2, g3, g4, g5⟩, er⟩, hE⟩ : ∃ q, getNode S r = q := ⟨_, rfl⟩
      rw [hE] at hg cr cw
      obtain ⟨k0, k1, k2, k3, k4, k5⟩ := n
      simp only [trV] at hg cr cw ⊢
      have hdw : IntKind.i64.wrap ((d : Int) + 1) = (d : Int) + 1 := IntWalk.i64_in _ (by omega)
      have q0 := heap_alloc_new w (.cells #[.int .u64 k0, .int .u64 k1, .int .u64 k2, .int .u64 k3, .int .u64 k4, .int .u64 k5, .int .u64 m] 319)
      have B0 := (Below.refl w.heap.size w).alloc (Nat.le_refl _) (.cells #[.int .u64 k0, .int .u64 k1, .int .u64 k2, .int .u64 k3, .int .u64 k4, .int .u64 k5, .int .u64 m] 319)
      have HG := kq9 hA hB hg h q0 B0 cr cw cb
      clear hA hB hg cr cw cb h hi hi1 hi2 hj hj1 hj2 ha hb q0 B0 ih hn hgl hx hx1 hE e1
      go_enter Tryz.func219, Tryz.ntmps219
      go_wp2_with fail
      refine (HG.out.1 _ HG.out.2.2.2.2.2.1).mono ?_
      rintro e w1 ⟨rfl, hb1⟩
      have H1 := kq2 (HG.out.2.2.2.2.2.1.trans (hb1.mono HG.out.2.2.2.2.2.1.size)) ((hb1.block w.heap.size (by simp)).trans HG.out.2.2.2.2.1)
      clear hb1
      go_wp2_with fail
      refine (HG.out.2.1 _ H1.out.1).mono ?_
      rintro e w2 ⟨rfl, hb2⟩
      have H2 := kq2 (H1.out.1.trans (hb2.mono H1.out.1.size)) ((hb2.block w.heap.size (gl H1.out.2)).trans H1.out.2)
      clear hb2
      go_wp2_with fail
      refine (HG.out.2.2.1 _ H2.out.1).mono ?_
      rintro e w3 ⟨rfl, hb3⟩
      have r3 := (hb3.block w.heap.size (gl H2.out.2)).trans H2.out.2
      have B3 := H2.out.1.trans (hb3.mono H2.out.1.size)
      have q4 := heap_alloc_new w3 (.cells #[.int .u64 g0, .int .u64 g1, .int .u64 g2, .int .u64 g3, .int .u64 g4, .int .u64 g5, .int .u64 r] 319)
      have r4 := (((Below.refl w3.heap.size w3).alloc (Nat.le_refl _) (.cells #[.int .u64 g0, .int .u64 g1, .int .u64 g2, .int .u64 g3, .int .u64 g4, .int .u64 g5, .int .u64 r] 319)).block w.heap.size (gl r3)).trans r3
      have B4 := B3.alloc B3.size (.cells #[.int .u64 g0, .int .u64 g1, .int .u64 g2, .int .u64 g3, .int .u64 g4, .int .u64 g5, .int .u64 r] 319)
      clear hb3 r3
      have hsz := B3.size
      go_wp2_with fail
      generalize w3.alloc (.cells #[.int .u64 g0, .int .u64 g1, .int .u64 g2, .int .u64 g3, .int .u64 g4, .int .u64 g5, .int .u64 r] 319) = W at *
      generalize w3.heap.size = b13 at *
      have lt8 := (gl r4)
      have lt13 := (gl q4)
      have zw := HG.out.2.2.2.1.wide B4
      have HZ := kq5 zw r4 q4 B4 hsz
      obtain ⟨I, hIi, hIo⟩ : ∃ I : World → Prop, (∀ w', I w' → w'.heap[w.heap.size]? = some (.cells #[.int .u64 k0, .int .u64 k1, .int .u64 k2, .int .u64 k3, .int .u64 k4, .int .u64 k5, .int .u64 m] 319) ∧ w'.heap[b13]? = some (.cells #[.int .u64 g0, .int .u64 g1, .int .u64 g2, .int .u64 g3, .int .u64 g4, .int .u64 g5, .int .u64 r] 319)) ∧ (∀ w', w'.heap[w.heap.size]? = some (.cells #[.int .u64 k0, .int .u64 k1, .int .u64 k2, .int .u64 k3, .int .u64 k4, .int .u64 k5, .int .u64 m] 319) → w'.heap[b13]? = some (.cells #[.int .u64 g0, .int .u64 g1, .int .u64 g2, .int .u64 g3, .int .u64 g4, .int .u64 g5, .int .u64 r] 319) → I w') := ⟨fun w' => w'.heap[w.heap.size]? = some (.cells #[.int .u64 k0, .int .u64 k1, .int .u64 k2, .int .u64 k3, .int .u64 k4, .int .u64 k5, .int .u64 m] 319) ∧ w'.heap[b13]? = some (.cells #[.int .u64 g0, .int .u64 g1, .int .u64 g2, .int .u64 g3, .int .u64 g4, .int .u64 g5, .int .u64 r] 319), fun _ h => h, fun _ a b => ⟨a, b⟩⟩
      have hy0 := fun x : Keeps I => (hIi _ x.ok).1
      have hz0 := fun x : Keeps I => (hIi _ x.ok).2
      obtain ⟨y0, y1, y2, y3, y4, y5, y6⟩ := cellsX7 hy0
      obtain ⟨z0, z1, z2, z3, z4, z5, z6⟩ := cellsX7 hz0
      have HI := Lib.hid hIo
      have hI0 : I W.drew := hIo _ r4 q4
      clear hy0 hz0 q4 r4 zw B4 hsz hIi hIo
      refine wp_region_held_tail I [0, 1, 2, 3, 4, 5, 6, 7, 8, 9, 10, 12, 13, 14] [11, 15, 16, 17] (by kernel_rfl) (by kernel_rfl) hI0 ?_
      refine' wpHeld_cons _ (by rfl) _ (by rfl) ?_ ?_
      rotate_left
      · rintro _ ⟨x, rfl⟩
        have hxy0 := y0 x
        have hxy1 := y1 x
        have hxy2 := y2 x
        have hxy3 := y3 x
        have hxy4 := y4 x
        have hxy5 := y5 x
        have hxy6 := y6 x
        have hxz0 := z0 x
        have hxz1 := z1 x
        have hxz2 := z2 x
        have hxz3 := z3 x
        have hxz4 := z4 x
        have hxz5 := z5 x
        have hxz6 := z6 x
        go_simp
        try with_reducible rfl
      simp only [pu]
      refine' wpHeld_cons _ (by rfl) _ (by rfl) ?_ ?_
      rotate_left
      · rintro _ ⟨x, rfl⟩
        have hxy0 := y0 x
        have hxy1 := y1 x
        have hxy2 := y2 x
        have hxy3 := y3 x
        have hxy4 := y4 x
        have hxy5 := y5 x
        have hxy6 := y6 x
        have hxz0 := z0 x
        have hxz1 := z1 x
        have hxz2 := z2 x
        have hxz3 := z3 x
        have hxz4 := z4 x
        have hxz5 := z5 x
        have hxz6 := z6 x
        go_simp
        try with_reducible rfl
      simp only [pu]
      refine' wpHeld_cons _ (by rfl) _ (by rfl) ?_ ?_
      rotate_left
      · rintro _ ⟨x, rfl⟩
        have hxy0 := y0 x
        have hxy1 := y1 x
        have hxy2 := y2 x
        have hxy3 := y3 x
        have hxy4 := y4 x
        have hxy5 := y5 x
        have hxy6 := y6 x
        have hxz0 := z0 x
        have hxz1 := z1 x
        have hxz2 := z2 x
        have hxz3 := z3 x
        have hxz4 := z4 x
        have hxz5 := z5 x
        have hxz6 := z6 x
        go_simp
        try with_reducible rfl
      simp only [pu]
      refine' wpHeld_cons _ (by rfl) _ (by rfl) ?_ ?_
      rotate_left
      · rintro _ ⟨x, rfl⟩
        have hxy0 := y0 x
        have hxy1 := y1 x
        have hxy2 := y2 x
        have hxy3 := y3 x
        have hxy4 := y4 x
        have hxy5 := y5 x
        have hxy6 := y6 x
        have hxz0 := z0 x
        have hxz1 := z1 x
        have hxz2 := z2 x
        have hxz3 := z3 x
        have hxz4 := z4 x
        have hxz5 := z5 x
        have hxz6 := z6 x
        go_simp
        try with_reducible rfl
      simp only [pu]
      refine' wpHeld_cons _ (by rfl) _ (by rfl) ?_ ?_
      rotate_left
      · rintro _ ⟨x, rfl⟩
        have hxy0 := y0 x
        have hxy1 := y1 x
        have hxy2 := y2 x
        have hxy3 := y3 x
        have hxy4 := y4 x
        have hxy5 := y5 x
        have hxy6 := y6 x
        have hxz0 := z0 x
        have hxz1 := z1 x
        have hxz2 := z2 x
        have hxz3 := z3 x
        have hxz4 := z4 x
        have hxz5 := z5 x
        have hxz6 := z6 x
        go_simp
        try with_reducible rfl
      simp only [pu]
      refine' wpHeld_cons _ (by rfl) _ (by rfl) ?_ ?_
      rotate_left
      · rintro _ ⟨x, rfl⟩
        have hxy0 := y0 x
        have hxy1 := y1 x
        have hxy2 := y2 x
        have hxy3 := y3 x
        have hxy4 := y4 x
        have hxy5 := y5 x
        have hxy6 := y6 x
        have hxz0 := z0 x
        have hxz1 := z1 x
        have hxz2 := z2 x
        have hxz3 := z3 x
        have hxz4 := z4 x
        have hxz5 := z5 x
        have hxz6 := z6 x
        go_simp
        try with_reducible rfl
      simp only [pu]
      refine' wpHeld_cons _ (by rfl) _ (by rfl) ?_ ?_
      rotate_left
      · rintro _ ⟨x, rfl⟩
        have hxy0 := y0 x
        have hxy1 := y1 x
        have hxy2 := y2 x
        have hxy3 := y3 x
        have hxy4 := y4 x
        have hxy5 := y5 x
        have hxy6 := y6 x
        have hxz0 := z0 x
        have hxz1 := z1 x
        have hxz2 := z2 x
        have hxz3 := z3 x
        have hxz4 := z4 x
        have hxz5 := z5 x
        have hxz6 := z6 x
        go_simp
        try with_reducible rfl
      simp only [pu]
      refine' wpHeld_cons _ (by rfl) _ (by rfl) ?_ ?_
      rotate_left
      · rintro _ ⟨x, rfl⟩
        have hxy0 := y0 x
        have hxy1 := y1 x
        have hxy2 := y2 x
        have hxy3 := y3 x
        have hxy4 := y4 x
        have hxy5 := y5 x
        have hxy6 := y6 x
        have hxz0 := z0 x
        have hxz1 := z1 x
        have hxz2 := z2 x
        have hxz3 := z3 x
        have hxz4 := z4 x
        have hxz5 := z5 x
        have hxz6 := z6 x
        go_simp
        try with_reducible rfl
      simp only [pu]
      refine' wpHeld_cons _ (by rfl) _ (by rfl) ?_ ?_
      rotate_left
      · rintro _ ⟨x, rfl⟩
        have hxy0 := y0 x
        have hxy1 := y1 x
        have hxy2 := y2 x
        have hxy3 := y3 x
        have hxy4 := y4 x
        have hxy5 := y5 x
        have hxy6 := y6 x
        have hxz0 := z0 x
        have hxz1 := z1 x
        have hxz2 := z2 x
        have hxz3 := z3 x
        have hxz4 := z4 x
        have hxz5 := z5 x
        have hxz6 := z6 x
        go_simp
        try with_reducible rfl
      simp only [pu]
      refine' wpHeld_cons _ (by rfl) _ (by rfl) ?_ ?_
      rotate_left
      · rintro _ ⟨x, rfl⟩
        have hxy0 := y0 x
        have hxy1 := y1 x
        have hxy2 := y2 x
        have hxy3 := y3 x
        have hxy4 := y4 x
        have hxy5 := y5 x
        have hxy6 := y6 x
        have hxz0 := z0 x
        have hxz1 := z1 x
        have hxz2 := z2 x
        have hxz3 := z3 x
        have hxz4 := z4 x
        have hxz5 := z5 x
        have hxz6 := z6 x
        go_simp
        try with_reducible rfl
      simp only [pu]
      refine' wpHeld_cons _ (by rfl) _ (by rfl) ?_ ?_
      rotate_left
      · rintro _ ⟨x, rfl⟩
        have hxy0 := y0 x
        have hxy1 := y1 x
        have hxy2 := y2 x
        have hxy3 := y3 x
        have hxy4 := y4 x
        have hxy5 := y5 x
        have hxy6 := y6 x
        have hxz0 := z0 x
        have hxz1 := z1 x
        have hxz2 := z2 x
        have hxz3 := z3 x
        have hxz4 := z4 x
        have hxz5 := z5 x
        have hxz6 := z6 x
        go_simp
        try with_reducible rfl
      simp only [pu]
      refine' wpHeld_cons _ (by rfl) _ (by rfl) ?_ ?_
      rotate_left
      · rintro _ ⟨x, rfl⟩
        have hxy0 := y0 x
        have hxy1 := y1 x
        have hxy2 := y2 x
        have hxy3 := y3 x
        have hxy4 := y4 x
        have hxy5 := y5 x
        have hxy6 := y6 x
        have hxz0 := z0 x
        have hxz1 := z1 x
        have hxz2 := z2 x
        have hxz3 := z3 x
        have hxz4 := z4 x
        have hxz5 := z5 x
        have hxz6 := z6 x
        go_simp
        try with_reducible rfl
      simp only [pu]
      refine' wpHeld_cons _ (by rfl) _ (by rfl) ?_ ?_
      rotate_left
      · rintro _ ⟨x, rfl⟩
        have hxy0 := y0 x
        have hxy1 := y1 x
        have hxy2 := y2 x
        have hxy3 := y3 x
        have hxy4 := y4 x
        have hxy5 := y5 x
        have hxy6 := y6 x
        have hxz0 := z0 x
        have hxz1 := z1 x
        have hxz2 := z2 x
        have hxz3 := z3 x
        have hxz4 := z4 x
        have hxz5 := z5 x
        have hxz6 := z6 x
        go_simp
        try with_reducible rfl
      simp only [pu]
      refine' wpHeld_cons _ (by rfl) _ (by rfl) ?_ ?_
      rotate_left
      · rintro _ ⟨x, rfl⟩
        have hxy0 := y0 x
        have hxy1 := y1 x
        have hxy2 := y2 x
        have hxy3 := y3 x
        have hxy4 := y4 x
        have hxy5 := y5 x
        have hxy6 := y6 x
        have hxz0 := z0 x
        have hxz1 := z1 x
        have hxz2 := z2 x
        have hxz3 := z3 x
        have hxz4 := z4 x
        have hxz5 := z5 x
        have hxz6 := z6 x
        go_simp
        try with_reducible rfl
      simp only [pu]
      refine wpHeld_nil ?_
      clear y0 y1 y2 y3 y4 y5 y6 z0 z1 z2 z3 z4 z5 z6
      refine wpSeqH_cons _ (by rfl) (by rfl) (fun K hK => ?_)
      go_simp
      refine (HG.out.2.2.2.2.2.2.1 _ _ (HZ.out.1.below (Below.refl _ _).drew)).mono ?_
      rintro e w5 ⟨rfl, h5, k5'⟩
      have u5 : w5.heap[w.heap.size]? = _ := (k5'.block _ (Or.inr ⟨Nat.le_refl _, lt8⟩)).trans HZ.out.2.1
      have v5 : w5.heap[b13]? = _ := (k5'.block _ (Or.inr ⟨HZ.out.2.2.2.2, lt13⟩)).trans HZ.out.2.2.1
      have H5 := kq4 h5 k5' u5 v5
      clear h5 k5' u5 v5
      try go_simp
      refine hK.out _ _ (HI.out _ H5.out.2.2.1 H5.out.2.2.2) ?_
      clear hK K
      try simp only [pu]
      refine wpSeqH_cons _ (by rfl) (by rfl) (fun K hK => ?_)
      go_simp
      refine (HG.out.2.2.2.2.2.2.2.1 _ _ H5.out.1).mono ?_
      rintro e w6 ⟨rfl, h6, k6'⟩
      have u6 : w6.heap[w.heap.size]? = _ := (k6'.block _ (Or.inr ⟨Nat.le_refl _, lt8⟩)).trans H5.out.2.2.1
      have v6 : w6.heap[b13]? = _ := (k6'.block _ (Or.inr ⟨HZ.out.2.2.2.2, lt13⟩)).trans H5.out.2.2.2
      have H6 := kq4 h6 (H5.out.2.1.trans k6') u6 v6
      clear h6 k6' u6 v6
      try go_simp
      refine hK.out _ _ (HI.out _ H6.out.2.2.1 H6.out.2.2.2) ?_
      clear hK K
      try simp only [pu]
      refine wpSeqH_cons _ (by rfl) (by rfl) (fun K hK => ?_)
      go_simp
      refine (HG.out.2.2.2.2.2.2.2.2 _ _ H6.out.1).mono ?_
      rintro e w7 ⟨rfl, hb7⟩
      have l6 := (gl H6.out.2.2.1)
      have l6' := (gl H6.out.2.2.2)
      have u7 : w7.heap[w.heap.size]? = _ := (hb7.block _ l6).trans H6.out.2.2.1
      have v7 : w7.heap[b13]? = _ := (hb7.block _ l6').trans H6.out.2.2.2
      have H7 := kq4 (H6.out.1.below hb7) (H6.out.2.1.trans (H6.out.1.keep hb7)) u7 v7
      clear hb7 u7 v7 l6 l6'
      try go_simp
      refine hK.out _ _ (HI.out _ H7.out.2.2.1 H7.out.2.2.2) ?_
      clear hK K
      try simp only [pu]
      refine wpSeqH_cons _ (by rfl) (by rfl) (fun K hK => ?_)
      try go_simp
      refine hK.out _ _ (HI.out _ H7.out.2.2.1 H7.out.2.2.2) ?_
      clear hK K
      try simp only [pu]
      refine wpSeqH_nil ?_
      go_wp2_with fail
      go_ret
      exact ⟨rfl, H7.out.1.mono fun k hk => Or.inl hk, (Keep.of_below HZ.out.2.2.2.1.drew HG.out.2.2.2.1.yl).trans (H7.out.2.1.mono fun k hk => Or.inl hk)⟩
    · rename_i hba hab
      have hq1 : ((b : Int) + 1 < a) = False := eq_false (by omega)
      have hq2 : ((a : Int) + 1 < b) = False := eq_false (by omega)
      obtain ⟨S1, h1, h2⟩ := Option.map_eq_some_iff.1 hj
      injection h2 with e1 e2
      subst e1 e2
      have hW := fun W Z (hW : StOn W ps S Z) => avl_with hW hi n hn m l r hm hl hr h1
      obtain ⟨k0, k1, k2, k3, k4, k5⟩ := n
      simp only [trV] at hW ⊢
      have q0 := heap_alloc_new w (.cells #[.int .u64 k0, .int .u64 k1, .int .u64 k2, .int .u64 k3, .int .u64 k4, .int .u64 k5, .int .u64 m] 319)
      have B0 := (Below.refl w.heap.size w).alloc (Nat.le_refl _) (.cells #[.int .u64 k0, .int .u64 k1, .int .u64 k2, .int .u64 k3, .int .u64 k4, .int .u64 k5, .int .u64 m] 319)
      have HG := kq6 hA hB hW h q0 B0
      clear hA hB hW h hi hj h1 ha hb q0 B0 hn hx ih
      go_enter Tryz.func219, Tryz.ntmps219
      go_wp2_with fail
      refine (HG.out.1 _ HG.out.2.2.2.2.2).mono ?_
      rintro e w1 ⟨rfl, hb1⟩
      have H1 := kq2 (HG.out.2.2.2.2.2.trans (hb1.mono HG.out.2.2.2.2.2.size)) ((hb1.block w.heap.size (by simp)).trans HG.out.2.2.2.2.1)
      clear hb1
      go_wp2_with fail
      refine (HG.out.2.1 _ H1.out.1).mono ?_
      rintro e w2 ⟨rfl, hb2⟩
      have r2 := (hb2.block w.heap.size (gl H1.out.2)).trans H1.out.2
      obtain ⟨c0, c1, c2, c3, c4, c5, c6⟩ := cells7 r2
      have H2 := Lib.hid (H1.out.1.trans (hb2.mono H1.out.1.size))
      clear hb2 r2
      go_wp2_with fail
      refine (HG.out.2.2.1 _ _ (HG.out.2.2.2.1.below H2.out)).mono ?_
      rintro e w3 ⟨rfl, h3, k3'⟩
      have H3 := kq2 h3 ((Keep.of_below H2.out HG.out.2.2.2.1.yl).trans k3')
      clear h3 k3'
      go_wp2_with fail
      go_ret
      exact ⟨rfl, H3.out⟩
def Lf.avlOkM (S : St) (l m r : Nat) : Option ((Nat × Nat) × St) :=
 if m = 0 ∨ isT S l = false ∨ isT S m = false ∨ isT S r = false then none
 else (joinM (getNode S m).1 m 100 S l r).map fun x => ((x.1, 0), x.2)
theorem avlOkM_some {S S' : St} {l m r : Nat} {R : Nat × Nat} (h : avlOkM S l m r = some (R, S')) :
 m ≠ 0 ∧ isT S l = true ∧ isT S m = true ∧ isT S r = true ∧ joinM (getNode S m).1 m 100 S l r = some (R.1, S') ∧ R.2 = 0 := by
 unfold avlOkM at h
 split at h
 · cases h
 · rename_i hc
   obtain ⟨⟨x, S1⟩, h1, h2⟩ := Option.map_eq_some_iff.1 h
   injection h2 with e1 e2
   subst e1 e2
   simp only [not_or, Bool.not_eq_false] at hc
   exact ⟨hc.1, hc.2.1, hc.2.2.1, hc.2.2.2, h1, rfl⟩
theorem avl_Join {w : World} {ps : Nat} {S S' : St} {Y : Nat → Prop} (h : StOn w ps S Y) (hi : Inv S) (l m r : Nat) (hl : l < 18446744073709551616) (hm : m < 18446744073709551616) (hr : r < 18446744073709551616) {R : Nat × Nat} (hR : avlOkM S l m r = some (R, S')) :
 Calls Tryz.prog 197 #[PV ps, .int .u64 l, .int .u64 m, .int .u64 r] w fun e w' => e = .returned (.tuple #[.int .u64 R.1, .int .i64 R.2]) ∧ StOn w' ps S' Y ∧ Keep Y w w' := by
 obtain ⟨h0, h1, h2, h3, h4, h5⟩ := avlOkM_some hR
 obtain ⟨x, er⟩ := R
 simp only at h4 h5
 subst h5
 have hlen := st_len h hi 0 (by omega)
 rw [len_zero] at hlen
 have h1' := avl_is h hi l hl
 have h2' := fun W (hW : Below w.heap.size w W) => avl_is (h.below hW) hi m hm
 have h3' := fun W (hW : Below w.heap.size w W) => avl_is (h.below hW) hi r hr
 have hg := fun W (hW : Below w.heap.size w W) => avl_get (h.below hW) hi m hm
 have hj := fun W (hW : Below w.heap.size w W) => avl_join (getNode S m).1 (getNode_lt h m) m hm 100 0 rfl (h.below hW) hi hl hr h4
 rw [h1] at h1'
 rw [h2] at h2'
 rw [h3] at h3'
 obtain ⟨⟨⟨k0, k1, k2, k3, k4, k5⟩, er⟩, hE⟩ : ∃ q, getNode S m = q := ⟨_, rfl⟩
 rw [hE] at hg hj
 simp only [trV] at hg hj
 have hq : ((m : Int) == 0) = false := by simp; omega
 have HG := kq7 hlen h1' h2' h3' hg hj h
 clear hlen h1' h2' h3' hg hj h hi hE h0 h1 h2 h3 h4 hR
 go_enter Tryz.func197, Tryz.ntmps197
 go_wp2_with fail
 refine HG.out.1.mono ?_
 rintro e w1 ⟨rfl, rfl⟩
 go_wp2_with fail
 refine HG.out.2.1.mono ?_
 rintro e w1 ⟨rfl, hb1⟩
 have H1 := Lib.hid hb1
 clear hb1
 go_wp2_with fail
 refine (HG.out.2.2.1 _ H1.out).mono ?_
 rintro e w2 ⟨rfl, hb2⟩
 have H2 := Lib.hid (H1.out.trans (hb2.mono H1.out.size))
 clear hb2
 go_wp2_with fail
 refine (HG.out.2.2.2.1 _ H2.out).mono ?_
 rintro e w3 ⟨rfl, hb3⟩
 have H3 := Lib.hid (H2.out.trans (hb3.mono H2.out.size))
 clear hb3
 go_wp2_with fail
 refine (HG.out.2.2.2.2.1 _ H3.out).mono ?_
 rintro e w4 ⟨rfl, hb4⟩
 have H4 := Lib.hid (H3.out.trans (hb4.mono H3.out.size))
 clear hb4
 go_wp2_with fail
 refine (HG.out.2.2.2.2.2.1 _ H4.out).mono ?_
 rintro e w5 ⟨rfl, h5, k5'⟩
 have H5 := kq2 h5 ((HG.out.2.2.2.2.2.2.keep H4.out).trans k5')
 clear h5 k5'
 go_wp2_with fail
 go_ret2
 exact ⟨rfl, H5.out⟩
def fnV (f : FuncId) : Value := .func (.func f) #[] #[]
def WayOk (kind : Nat) (j c : FuncId) : Prop := ∀ W, Calls Tryz.prog 184 #[.int .i64 kind] W fun e w' => e = .returned (.tuple #[.agg #[fnV j, fnV c], .bool true]) ∧ Below W.heap.size W w'
def cutV (ps : Nat) (j c : FuncId) : Value := .agg #[PV ps, fnV j, fnV c]
theorem st2_heap {W : World} {b : Nat} {u0 u1 : Value} {t : TypeId} {fr : Nat × Nat} (h : W.heap[b]? = some (.cells #[u0, u1] t fr)) (v0 v1 : Value) : ((W.setCell ⟨b, 0, none⟩ (v0)).setCell ⟨b, 1, none⟩ (v1)).heap[b]? = some (.cells #[v0, v1] t fr) := by
 rw [heap_setCell (heap_setCell h)]
 rfl
theorem st2_below {w W : World} {b : Nat} (h : Below w.heap.size w W) (hb : w.heap.size ≤ b) (v0 v1 : Value) : Below w.heap.size w ((W.setCell ⟨b, 0, none⟩ (v0)).setCell ⟨b, 1, none⟩ (v1)) :=
 (h.setCell (p := ⟨b, 0, none⟩) hb _).setCell (p := ⟨b, 1, none⟩) hb _
theorem st3_heap {W : World} {b : Nat} {u0 u1 u2 : Value} {t : TypeId} {fr : Nat × Nat} (h : W.heap[b]? = some (.cells #[u0, u1, u2] t fr)) (v0 v1 v2 : Value) : (((W.setCell ⟨b, 0, none⟩ (v0)).setCell ⟨b, 1, none⟩ (v1)).setCell ⟨b, 2, none⟩ (v2)).heap[b]? = some (.cells #[v0, v1, v2] t fr) := by
 rw [heap_setCell (heap_setCell (heap_setCell h))]
 rfl
theorem st3_below {w W : World} {b : Nat} (h : Below w.heap.size w W) (hb : w.heap.size ≤ b) (v0 v1 v2 : Value) : Below w.heap.size w (((W.setCell ⟨b, 0, none⟩ (v0)).setCell ⟨b, 1, none⟩ (v1)).setCell ⟨b, 2, none⟩ (v2)) :=
 ((h.setCell (p := ⟨b, 0, none⟩) hb _).setCell (p := ⟨b, 1, none⟩) hb _).setCell (p := ⟨b, 2, none⟩) hb _
theorem way_avl : WayOk 1 197 198 := by
 intro W
 simp only [fnV]
 go_enter Tryz.func184, Tryz.ntmps184
 go_wp2_with fail
 exact bodyPost_ret (v := .tuple #[.agg #[.func (.func 197) #[] #[], .func (.func 198) #[] #[]], .bool true]) (by simp [results, Tryz.f184, go_sem]) rfl ⟨rfl, (Below.refl _ _).alloc (Nat.le_refl _) _⟩
theorem asked_nil {w : World} {ps : Nat} {S : St} {Y : Nat → Prop} (h : StOn w ps S Y) (hi : Inv S) {kind : Nat} {j c : FuncId} (hk : WayOk kind j c) :
 Calls Tryz.prog 164 #[PV ps, .int .i64 kind, .string ⟨#[]⟩, .slice none 0 0] w fun e w' => e = .returned (.tuple #[cutV ps j c, .int .i64 0]) ∧ Below w.heap.size w w' := by
 have q0 := heap_alloc_new w (.cells #[.pointer none, .nilFunc, .nilFunc] 265)
 have B0 := (Below.refl w.heap.size w).alloc (Nat.le_refl _) (.cells #[.pointer none, .nilFunc, .nilFunc] 265)
 have hlen := st_len (h.below B0) hi 0 (by omega)
 rw [len_zero] at hlen
 simp only [cutV, WayOk, fnV] at hk ⊢
 have HG := kq4 hlen hk q0 B0
 clear hlen hk h hi q0 B0
 go_enter Tryz.func164, Tryz.ntmps164
 go_wp2_with fail
 refine HG.out.1.mono ?_
 rintro e w1 ⟨rfl, rfl⟩
 go_wp2_with fail
 refine (HG.out.2.1 _).mono ?_
 rintro e w2 ⟨rfl, hb2⟩
 have hal := hb2.alloc hb2.size (.cells #[.func (.func j) #[] #[], .func (.func c) #[] #[]] 263)
 have r2 := (hal.block w.heap.size (by simp)).trans HG.out.2.2.1
 have q2 := heap_alloc_new w2 (.cells #[.func (.func j) #[] #[], .func (.func c) #[] #[]] 263)
 have B2 := HG.out.2.2.2.trans (hal.mono HG.out.2.2.2.size)
 go_wp2_with fail
 generalize w2.alloc (.cells #[.func (.func j) #[] #[], .func (.func c) #[] #[]] 263) = W at *
 generalize w2.heap.size = bt at *
 have HR := kq3 r2 B2 q2
 clear r2 B2 hb2 hal q2
 go_loopw [15, 16, 17, 40] (fun _ _ _ i wr => i = .int .i64 0 ∧ wr = W) (fun _ _ _ _ _ => 0)
 case atStart => exact ⟨rfl, rfl⟩
 case round =>
  obtain ⟨rfl, rfl⟩ := hrel
  obtain ⟨r2, B2, q2⟩ := HR.out
  obtain ⟨c0, c1, c2⟩ := cells3 r2
  obtain ⟨f0, f1, f2⟩ := frees3 r2
  obtain ⟨d0, d1⟩ := cells2 q2
  have HX := kq2 r2 B2
  clear r2 B2 q2
  go_wp2_with fail
  have q3 := st3_heap HX.out.1 (PV ps) (.func (.func j) #[] #[]) (.func (.func c) #[] #[])
  have B3 := st3_below HX.out.2 (Nat.le_refl w.heap.size) (PV ps) (.func (.func j) #[] #[]) (.func (.func c) #[] #[])
  generalize (((wr.setCell ⟨w.heap.size, 0, none⟩ (PV ps)).setCell ⟨w.heap.size, 1, none⟩ (.func (.func j) #[] #[])).setCell ⟨w.heap.size, 2, none⟩ (.func (.func c) #[] #[])) = W3 at *
  obtain ⟨e0, e1, e2⟩ := cells3 q3
  exact bodyPost_ret (v := .tuple #[.agg #[PV ps, .func (.func j) #[] #[], .func (.func c) #[] #[]], .int .i64 0]) (by simp [results, Tryz.f164, go_sem, e0, e1, e2]) rfl ⟨rfl, B3⟩
theorem asked_two {w : World} {ps : Nat} {S : St} {Y : Nat → Prop} (h : StOn w ps S Y) (hi : Inv S) {kind : Nat} {j c : FuncId} (hk : WayOk kind j c) (a b : Nat) (ha : a < 18446744073709551616) (hb : b < 18446744073709551616) (hta : isT S a = true) (htb : isT S b = true) (rb : Nat) {t : TypeId} {fr : Nat × Nat} (hr : w.heap[rb]? = some (.cells #[.int .u64 a, .int .u64 b] t fr)) :
 Calls Tryz.prog 164 #[PV ps, .int .i64 kind, .string ⟨#[]⟩, .slice (some ⟨rb, 0, none⟩) 2 2] w fun e w' => e = .returned (.tuple #[cutV ps j c, .int .i64 0]) ∧ Below w.heap.size w w' := by
 have q0 := heap_alloc_new w (.cells #[.pointer none, .nilFunc, .nilFunc] 265)
 have B0 := (Below.refl w.heap.size w).alloc (Nat.le_refl _) (.cells #[.pointer none, .nilFunc, .nilFunc] 265)
 have hlen := st_len (h.below B0) hi 0 (by omega)
 rw [len_zero] at hlen
 have hga := fun W (hW : Below w.heap.size w W) => node_get (h.below hW) hi a ha
 have hgb := fun W (hW : Below w.heap.size w W) => node_get (h.below hW) hi b hb
 have hza : ∀ er : Nat, (getNode S a).2 = er → (((a : Int) != 0) && ((er : Int) != 0)) = false := fun er he => by
  unfold isT at hta
  simp only [he, Bool.or_eq_true, decide_eq_true_eq] at hta
  rcases hta with e | e <;> simp [e]
 have hzb : ∀ er : Nat, (getNode S b).2 = er → (((b : Int) != 0) && ((er : Int) != 0)) = false := fun er he => by
  unfold isT at htb
  simp only [he, Bool.or_eq_true, decide_eq_true_eq] at htb
  rcases htb with e | e <;> simp [e]
 obtain ⟨⟨⟨a0, a1, a2, a3, a4, a5⟩, ea⟩, hEa⟩ : ∃ q, getNode S a = q := ⟨_, rfl⟩
 obtain ⟨⟨⟨b0, b1, b2, b3, b4, b5⟩, eb⟩, hEb⟩ : ∃ q, getNode S b = q := ⟨_, rfl⟩
 rw [hEa] at hga hza
 rw [hEb] at hgb hzb
 have hza := hza ea rfl
 have hzb := hzb eb rfl
 simp only [cutV, WayOk, fnV, ndV] at hk hga hgb ⊢
 have HG := kq7 hlen hk q0 B0 hga hgb hr
 clear hlen hk h hi q0 B0 hga hgb hta htb hEa hEb hr
 have HZ := kq2 hza hzb
 clear hza hzb
 go_enter Tryz.func164, Tryz.ntmps164
 go_wp2_with fail
 refine HG.out.1.mono ?_
 rintro e w1 ⟨rfl, rfl⟩
 go_wp2_with fail
 refine (HG.out.2.1 _).mono ?_
 rintro e w2 ⟨rfl, hb2⟩
 have hal := hb2.alloc hb2.size (.cells #[.func (.func j) #[] #[], .func (.func c) #[] #[]] 263)
 have r2 := (hal.block w.heap.size (by simp)).trans HG.out.2.2.1
 have q2 := heap_alloc_new w2 (.cells #[.func (.func j) #[] #[], .func (.func c) #[] #[]] 263)
 have B2 := HG.out.2.2.2.1.trans (hal.mono HG.out.2.2.2.1.size)
 have hsz2 : w.heap.size < w2.heap.size := by have := hb2.size; simp at this; omega
 go_wp2_with fail
 generalize w2.alloc (.cells #[.func (.func j) #[] #[], .func (.func c) #[] #[]] 263) = W at *
 generalize w2.heap.size = bt at *
 have HR := kq4 r2 B2 q2 hsz2
 clear r2 B2 hb2 hal q2 hsz2
 go_loopw [15, 16, 17, 40] (fun _ _ _ i wr => (i = .int .i64 0 ∧ Below W.heap.size W wr) ∨ (i = .int .i64 1 ∧ Below W.heap.size W wr) ∨ (i = .int .i64 2 ∧ Below W.heap.size W wr)) (fun _ _ _ i _ => 2 - (intOf i).toNat)
 case atStart => exact Or.inl ⟨rfl, Below.refl _ _⟩
 case round =>
  obtain ⟨rfl, hW⟩ | ⟨rfl, hW⟩ | ⟨rfl, hW⟩ := hrel
  · have hbr := ((HR.out.2.1.trans (hW.mono HR.out.2.1.size)).block rb (gl HG.out.2.2.2.2.2.2)).trans HG.out.2.2.2.2.2.2
    obtain ⟨c0, c1⟩ := cells2 hbr
    have HW := Lib.hid hW
    clear hW hbr
    go_wp2_with fail
    refine (HG.out.2.2.2.2.1 _ (HR.out.2.1.trans (HW.out.mono HR.out.2.1.size))).mono ?_
    rintro e w5 ⟨rfl, hb5⟩
    have H5 := Lib.hid ((HW.out.trans (hb5.mono HW.out.size)).alloc (HW.out.trans (hb5.mono HW.out.size)).size (.cells #[.int .u64 a0, .int .u64 a1, .int .u64 a2, .int .u64 a3, .int .u64 a4, .int .u64 a5] 232))
    clear hb5
    have hz := HZ.out.1
    go_wp2_with fail
    all_goals exact ⟨Or.inr (Or.inl ⟨rfl, H5.out⟩), by simp [intOf]⟩
  · have hbr := ((HR.out.2.1.trans (hW.mono HR.out.2.1.size)).block rb (gl HG.out.2.2.2.2.2.2)).trans HG.out.2.2.2.2.2.2
    obtain ⟨c0, c1⟩ := cells2 hbr
    have HW := Lib.hid hW
    clear hW hbr
    go_wp2_with fail
    refine (HG.out.2.2.2.2.2.1 _ (HR.out.2.1.trans (HW.out.mono HR.out.2.1.size))).mono ?_
    rintro e w5 ⟨rfl, hb5⟩
    have H5 := Lib.hid ((HW.out.trans (hb5.mono HW.out.size)).alloc (HW.out.trans (hb5.mono HW.out.size)).size (.cells #[.int .u64 b0, .int .u64 b1, .int .u64 b2, .int .u64 b3, .int .u64 b4, .int .u64 b5] 232))
    clear hb5
    have hz := HZ.out.2
    go_wp2_with fail
    all_goals exact ⟨Or.inr (Or.inr ⟨rfl, H5.out⟩), by simp [intOf]⟩
  · obtain ⟨r2, B2, q2, -⟩ := HR.out
    replace B2 := B2.trans (hW.mono B2.size)
    replace r2 := (hW.block _ (gl r2)).trans r2
    replace q2 := (hW.block _ (gl q2)).trans q2
    obtain ⟨c0, c1, c2⟩ := cells3 r2
    obtain ⟨f0, f1, f2⟩ := frees3 r2
    obtain ⟨d0, d1⟩ := cells2 q2
    have HX := kq2 r2 B2
    clear r2 B2 q2
    go_wp2_with fail
    have q3 := st3_heap HX.out.1 (PV ps) (.func (.func j) #[] #[]) (.func (.func c) #[] #[])
    have B3 := st3_below HX.out.2 (Nat.le_refl w.heap.size) (PV ps) (.func (.func j) #[] #[]) (.func (.func c) #[] #[])
    generalize (((wr.setCell ⟨w.heap.size, 0, none⟩ (PV ps)).setCell ⟨w.heap.size, 1, none⟩ (.func (.func j) #[] #[])).setCell ⟨w.heap.size, 2, none⟩ (.func (.func c) #[] #[])) = W3 at *
    obtain ⟨e0, e1, e2⟩ := cells3 q3
    exact bodyPost_ret (v := .tuple #[.agg #[PV ps, .func (.func j) #[] #[], .func (.func c) #[] #[]], .int .i64 0]) (by simp [results, Tryz.f164, go_sem, e0, e1, e2]) rfl ⟨rfl, B3⟩
theorem st6_heap {W : World} {b : Nat} {u0 u1 u2 u3 u4 u5 : Value} {t : TypeId} {fr : Nat × Nat} (h : W.heap[b]? = some (.cells #[u0, u1, u2, u3, u4, u5] t fr)) (v0 v1 v2 v3 v4 v5 : Value) : ((((((W.setCell ⟨b, 0, none⟩ (v0)).setCell ⟨b, 1, none⟩ (v1)).setCell ⟨b, 2, none⟩ (v2)).setCell ⟨b, 3, none⟩ (v3)).setCell ⟨b, 4, none⟩ (v4)).setCell ⟨b, 5, none⟩ (v5)).heap[b]? = some (.cells #[v0, v1, v2, v3, v4, v5] t fr) := by
 rw [heap_setCell (heap_setCell (heap_setCell (heap_setCell (heap_setCell (heap_setCell h)))))]
 rfl
theorem st6_below {w W : World} {b : Nat} (h : Below w.heap.size w W) (hb : w.heap.size ≤ b) (v0 v1 v2 v3 v4 v5 : Value) : Below w.heap.size w ((((((W.setCell ⟨b, 0, none⟩ (v0)).setCell ⟨b, 1, none⟩ (v1)).setCell ⟨b, 2, none⟩ (v2)).setCell ⟨b, 3, none⟩ (v3)).setCell ⟨b, 4, none⟩ (v4)).setCell ⟨b, 5, none⟩ (v5)) :=
 (((((h.setCell (p := ⟨b, 0, none⟩) hb _).setCell (p := ⟨b, 1, none⟩) hb _).setCell (p := ⟨b, 2, none⟩) hb _).setCell (p := ⟨b, 3, none⟩) hb _).setCell (p := ⟨b, 4, none⟩) hb _).setCell (p := ⟨b, 5, none⟩) hb _
structure JoinsAs (j : FuncId) (jn : Jn) : Prop where
 enter : ∀ (args : Array Value) (w : World), (callFunc j args).run Tryz.prog w = .ok (.enter j args) w
 inv : ∀ {S S' : St} {l m r : Nat} {R : Nat × Nat}, Inv S → jn S l m r = some (R, S') → Inv S'
 lt : ∀ {S S' : St} {l m r : Nat} {R : Nat × Nat}, Inv S → l < 18446744073709551616 → m < 18446744073709551616 → r < 18446744073709551616 → jn S l m r = some (R, S') → R.1 < 18446744073709551616
 ok : ∀ {S S' : St} {l m r : Nat} {R : Nat × Nat}, jn S l m r = some (R, S') → R.2 = 0
 call : ∀ {w : World} {ps : Nat} {S S' : St} {Y : Nat → Prop} {l m r : Nat} {R : Nat × Nat}, StOn w ps S Y → Inv S → l < 18446744073709551616 → m < 18446744073709551616 → r < 18446744073709551616 → jn S l m r = some (R, S') →
  Calls Tryz.prog j #[PV ps, .int .u64 l, .int .u64 m, .int .u64 r] w fun e w' => e = .returned (.tuple #[.int .u64 R.1, .int .i64 R.2]) ∧ StOn w' ps S' Y ∧ Keep Y w w'
theorem joins_avl : JoinsAs 197 avlOkM where
 enter args w := by go_simp
 inv hi h := (joinM_inv _ _ 100 hi (avlOkM_some h).2.2.2.2.1).1
 lt hi hl hm hr h := by
  rcases (joinM_inv _ _ 100 hi (avlOkM_some h).2.2.2.2.1).2 with e | e | e <;> rw [e] <;> assumption
 ok h := (avlOkM_some h).2.2.2.2.2
 call h hi hl hm hr hR := avl_Join h hi _ _ _ hl hm hr hR
theorem cjoinM_some {j : FuncId} {jn : Jn} (hj : JoinsAs j jn) {S S' : St} {l m r x : Nat} (h : cjoinM jn S l m r = some (x, S')) : jn S l m r = some ((x, 0), S') := by
 unfold cjoinM at h
 obtain ⟨⟨⟨a, b⟩, S1⟩, h1, h2⟩ := Option.map_eq_some_iff.1 h
 have := hj.ok h1
 simp only at this
 subst this
 simp only [if_true] at h2
 injection h2 with e1 e2
 rw [h1, e1, e2]
theorem cut_join {w : World} {ps : Nat} {S S' : St} {Y : Nat → Prop} (h : StOn w ps S Y) (hi : Inv S) {j c : FuncId} {jn : Jn} (hj : JoinsAs j jn) (l m r : Nat) (hl : l < 18446744073709551616) (hm : m < 18446744073709551616) (hr : r < 18446744073709551616) {x : Nat} (hx : cjoinM jn S l m r = some (x, S')) :
 Calls Tryz.prog 302 #[cutV ps j c, .int .u64 l, .int .u64 m, .int .u64 r] w fun e w' => e = .returned (.int .u64 x) ∧ StOn w' ps S' Y ∧ Keep Y w w' := by
 have h1 := cjoinM_some hj hx
 have q0 := heap_alloc_new w (.cells #[PV ps, fnV j, fnV c] 265)
 have B0 := (Below.refl w.heap.size w).alloc (Nat.le_refl _) (.cells #[PV ps, fnV j, fnV c] 265)
 have hc := hj.call (h.below B0) hi hl hm hr h1
 simp only [cutV, fnV] at q0 B0 hc ⊢
 have hen := hj.enter
 have HG := kq4 hc B0 q0 h
 clear hc q0 B0 h hi hj hx h1
 go_enter Tryz.func302, Tryz.ntmps302
 go_wp2_with fail
 refine HG.out.1.mono ?_
 rintro e w1 ⟨rfl, h1, k1⟩
 have H1 := kq2 h1 ((Keep.of_below HG.out.2.1 HG.out.2.2.2.yl).trans k1)
 clear h1 k1
 go_wp2_with fail
 go_ret
 exact ⟨rfl, H1.out⟩
theorem cut_key {w : World} {ps : Nat} {S : St} {Y : Nat → Prop} (h : StOn w ps S Y) (hi : Inv S) {j c : FuncId} (hh : Nat) (hl : hh < 18446744073709551616) {t : List UInt8} (ht : textM S (getNode S hh).1.key = some t) :
 Calls Tryz.prog 306 #[cutV ps j c, .int .u64 hh] w fun e w' => e = .returned (.tuple #[SV t, ndV (getNode S hh).1]) ∧ Below w.heap.size w w' := by
 have hlt := getNode_lt h hh
 have hg := fun W (hW : Below w.heap.size w W) => node_get (h.below hW) hi hh hl
 obtain ⟨⟨⟨k0, k1, k2, k3, k4, k5⟩, er⟩, hE⟩ : ∃ q, getNode S hh = q := ⟨_, rfl⟩
 rw [hE] at hg hlt ht ⊢
 unfold textM at ht
 split at ht
 · cases ht
 rename_i h8
 have ht := Option.some.inj ht
 have hb := fun W (hW : Below w.heap.size w W) => blob_get (h.below hW) hi k0 hlt.key h8
 simp only at hb ht
 rw [ht] at hb
 generalize (getBlob S k0).2 = eb at *
 have q0 := heap_alloc_new w (.cells #[PV ps, fnV j, fnV c] 265)
 have B1 := (Below.refl w.heap.size w).alloc (Nat.le_refl _) (.cells #[PV ps, fnV j, fnV c] 265)
 have Bz := (Below.refl (w.alloc (.cells #[PV ps, fnV j, fnV c] 265)).heap.size (w.alloc (.cells #[PV ps, fnV j, fnV c] 265))).alloc (Nat.le_refl _) (.cells #[.int .u64 0, .int .u64 0, .int .u64 0, .int .u64 0, .int .u64 0, .int .u64 0] 232)
 have q1 := (Bz.block w.heap.size (by simp)).trans q0
 have z1 := heap_alloc_new (w.alloc (.cells #[PV ps, fnV j, fnV c] 265)) (.cells #[.int .u64 0, .int .u64 0, .int .u64 0, .int .u64 0, .int .u64 0, .int .u64 0] 232)
 have B0 := B1.trans (Bz.mono B1.size)
 simp only [World.size_alloc] at z1
 simp only [cutV, fnV, ndV] at B0 hg q1 z1 ⊢
 have HG := kq5 hg hb B0 q1 z1
 clear hg hb B0 h hi hlt hE ht h8 q0 q1 B1 Bz z1
 go_enter Tryz.func306, Tryz.ntmps306
 go_wp2_with fail
 refine (HG.out.1 _ HG.out.2.2.1).mono ?_
 rintro e w1 ⟨rfl, hb1⟩
 have hal := hb1.alloc hb1.size (.cells #[.int .u64 k0, .int .u64 k1, .int .u64 k2, .int .u64 k3, .int .u64 k4, .int .u64 k5] 232)
 have q2 := heap_alloc_new w1 (.cells #[.int .u64 k0, .int .u64 k1, .int .u64 k2, .int .u64 k3, .int .u64 k4, .int .u64 k5] 232)
 have r2 := (hal.block w.heap.size (by simp; omega)).trans HG.out.2.2.2.1
 have z2 := (hal.block (w.heap.size + 1) (by simp)).trans HG.out.2.2.2.2
 obtain ⟨c0, c1, c2⟩ := cells3 r2
 have H2 := kq3 (HG.out.2.2.1.trans (hal.mono HG.out.2.2.1.size)) q2 z2
 clear hb1 hal q2 r2 z2
 go_wp2_with fail
 refine (HG.out.2.1 _ H2.out.1).mono ?_
 rintro e w3 ⟨rfl, hb3⟩
 have q3 := (hb3.block _ (gl H2.out.2.1)).trans H2.out.2.1
 have z3 := (hb3.block _ (gl H2.out.2.2)).trans H2.out.2.2
 obtain ⟨d0, d1, d2, d3, d4, d5⟩ := cells6 q3
 obtain ⟨e0, e1, e2, e3, e4, e5⟩ := cells6 z3
 obtain ⟨f0, f1, f2, f3, f4, f5⟩ := frees6 z3
 have H3 := kq2 (H2.out.1.trans (hb3.mono H2.out.1.size)) z3
 clear hb3 q3 z3
 go_wp2_with fail
 go_region
 go_wp2_with fail
 have q6 : ((((((w3.setCell ⟨(w.heap.size + 1), 0, none⟩ (.int .u64 k0)).setCell ⟨(w.heap.size + 1), 1, none⟩ (.int .u64 k1)).setCell ⟨(w.heap.size + 1), 2, none⟩ (.int .u64 k2)).setCell ⟨(w.heap.size + 1), 3, none⟩ (.int .u64 k3)).setCell ⟨(w.heap.size + 1), 4, none⟩ (.int .u64 k4)).setCell ⟨(w.heap.size + 1), 5, none⟩ (.int .u64 k5)).drew.heap[w.heap.size + 1]? = _ := st6_heap H3.out.2 (.int .u64 k0) (.int .u64 k1) (.int .u64 k2) (.int .u64 k3) (.int .u64 k4) (.int .u64 k5)
 have B6 := (st6_below H3.out.1 (Nat.le_succ w.heap.size) (.int .u64 k0) (.int .u64 k1) (.int .u64 k2) (.int .u64 k3) (.int .u64 k4) (.int .u64 k5)).drew
 generalize ((((((w3.setCell ⟨(w.heap.size + 1), 0, none⟩ (.int .u64 k0)).setCell ⟨(w.heap.size + 1), 1, none⟩ (.int .u64 k1)).setCell ⟨(w.heap.size + 1), 2, none⟩ (.int .u64 k2)).setCell ⟨(w.heap.size + 1), 3, none⟩ (.int .u64 k3)).setCell ⟨(w.heap.size + 1), 4, none⟩ (.int .u64 k4)).setCell ⟨(w.heap.size + 1), 5, none⟩ (.int .u64 k5)).drew = W6 at *
 obtain ⟨g0, g1, g2, g3, g4, g5⟩ := cells6 q6
 exact bodyPost_ret (v := .tuple #[SV t, .agg #[.int .u64 k0, .int .u64 k1, .int .u64 k2, .int .u64 k3, .int .u64 k4, .int .u64 k5]]) (by simp [results, Tryz.f306, go_sem, g0, g1, g2, g3, g4, g5]) rfl ⟨rfl, B6⟩
