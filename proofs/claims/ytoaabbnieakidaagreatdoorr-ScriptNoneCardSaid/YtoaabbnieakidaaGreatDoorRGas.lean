/- Trees balanced by their heights: balance (where nothing is to be turned), join, Join: the walks. -/
import Derived.Test.YtoaabbnieakidaaGreatDoorRGar
namespace Go.Proofs.YtoaabbnieakidaaGreatDoorR
open Go.RowKit Go.BigFrame Go.Maps Go.WideMaps Lf

theorem balanceM_some {S : St} {hh : Nat} {R : Nat × St} (h : balanceM S hh = some R) : R = (hh, S) ∧ ∃ a b, heightM S (getNode S hh).1.left = some a ∧ heightM S (getNode S hh).1.right = some b ∧ a ≤ b + 1 ∧ b ≤ a + 1 := by
  unfold balanceM at h
  split at h
  · rename_i a b h1 h2
    split at h
    · rename_i hc
      exact ⟨(Option.some.inj h).symm, a, b, h1, h2, hc.1, hc.2⟩
    · cases h
  · cases h

set_option maxRecDepth 100000 in
set_option maxHeartbeats 1600000 in
theorem avl_balance {w : World} {ps : Nat} {S : St} {Y : Nat → Prop} (h : StOn w ps S Y) (hi : Inv S) (hh : Nat) (hl : hh < 18446744073709551616) {R : Nat × St} (hR : balanceM S hh = some R) :
    Calls Tryz.prog 320 #[PV ps, .int .u64 hh] w fun e w' => e = .returned (.int .u64 hh) ∧ Below w.heap.size w w' := by
  obtain ⟨-, a, b, h1, h2, hab, hba⟩ := balanceM_some hR
  have hg := avl_get h hi hh hl
  have hlt := getNode_lt h hh
  have ha : a < 4611686018427387904 := by have := num_some h1; omega
  have hb : b < 4611686018427387904 := by have := num_some h2; omega
  obtain ⟨⟨⟨k0, k1, k2, k3, k4, k5⟩, er⟩, hE⟩ : ∃ r, getNode S hh = r := ⟨_, rfl⟩
  rw [hE] at hg hlt h1 h2
  simp only [trV] at hg hlt h1 h2
  have hA := fun W (hW : Below w.heap.size w W) => avl_height (h.below hW) hi k2 hlt.left h1
  have hB := fun W (hW : Below w.heap.size w W) => avl_height (h.below hW) hi k3 hlt.right h2
  have d0 : IntKind.i64.wrap ((a : Int) - b) = (a : Int) - b := IntWalk.i64_in _ (by omega)
  have d1 : ((1 : Int) < (a : Int) - b) = False := eq_false (by omega)
  have d2 : ((a : Int) - b < -1) = False := eq_false (by omega)
  have HG := Lib.hid (And.intro hg (And.intro hA hB))
  clear hg hA hB h hi hE hlt h1 h2 hR
  go_enter Tryz.func320, Tryz.ntmps320
  go_wp2_with fail
  refine HG.out.1.mono ?_
  rintro e w1 ⟨rfl, hb1⟩
  have q := heap_alloc_new w1 (.cells #[.int .u64 k0, .int .u64 k1, .int .u64 k2, .int .u64 k3, .int .u64 k4, .int .u64 k5, .int .u64 hh] 394)
  have B := hb1.alloc hb1.size (.cells #[.int .u64 k0, .int .u64 k1, .int .u64 k2, .int .u64 k3, .int .u64 k4, .int .u64 k5, .int .u64 hh] 394)
  clear hb1
  go_wp2_with fail
  generalize w1.alloc (.cells #[.int .u64 k0, .int .u64 k1, .int .u64 k2, .int .u64 k3, .int .u64 k4, .int .u64 k5, .int .u64 hh] 394) = W at *
  have ql := (Array.getElem?_eq_some_iff.1 q).1
  have hx2 : ∀ x : Keeps (Below W.heap.size W), x.to.cell? ⟨w1.heap.size, 2, none⟩ = some (.int .u64 k2) := fun x => by rw [cell_of_block ((x.ok.block _ ql).trans q)]; rfl
  have hx3 : ∀ x : Keeps (Below W.heap.size W), x.to.cell? ⟨w1.heap.size, 3, none⟩ = some (.int .u64 k3) := fun x => by rw [cell_of_block ((x.ok.block _ ql).trans q)]; rfl
  have hA := fun x : Keeps (Below W.heap.size W) => Calls.keeps_below (HG.out.2.1 x.to (B.trans (x.ok.mono B.size)))
  have hB := fun x : Keeps (Below W.heap.size W) => Calls.keeps_below (HG.out.2.2 x.to (B.trans (x.ok.mono B.size)))
  have HB := Lib.hid B
  clear B q
  refine wp_region_keeps (Below W.heap.size W) (by kernel_rfl) (by kernel_rfl) (Below.refl _ _).drew (fun _ => ?_)
  repeat (first | go_big_quiet_skip | (go_big_quiet_want; go_big_quiet_op; first | go_big_quiet_on | (apply Exists.intro; refine ⟨fun x => ?_, ?_⟩; (· first | with_reducible exact hA x | with_reducible exact hB x); go_big_quiet_on)))
  refine wpQuiet_nil ?_
  rintro _ ⟨x, rfl⟩
  have HX := Lib.hid (HB.out.trans (x.ok.mono HB.out.size))
  clear hA hB
  go_wp2_with fail
  go_ret
  exact ⟨rfl, HX.out⟩
theorem joinM_inv (n : Nd) (m : Nat) : ∀ (f : Nat) {S S' : St} {l r x : Nat}, Inv S → joinM n m f S l r = some (x, S') → Inv S' ∧ (x = m ∨ x = l ∨ x = r)
  | 0, S, S', l, r, x, hi, hj => by
    rw [joinM_zero] at hj
    obtain ⟨S1, h1, h2⟩ := Option.map_eq_some_iff.1 hj
    injection h2 with e1 e2
    subst e1 e2
    exact ⟨withM_inv hi h1, Or.inl rfl⟩
  | f + 1, S, S', l, r, x, hi, hj => by
    rw [joinM_succ] at hj
    split at hj
    · split at hj
      · split at hj
        · cases hj
        · rename_i x1 S1 h1
          split at hj
          · cases hj
          · rename_i S2 h2
            have := (balanceM_some hj).1
            injection this with e1 e2
            subst e1 e2
            exact ⟨withM_inv (joinM_inv n m f hi h1).1 h2, Or.inr (Or.inl rfl)⟩
      · split at hj
        · split at hj
          · cases hj
          · rename_i x1 S1 h1
            split at hj
            · cases hj
            · rename_i S2 h2
              have := (balanceM_some hj).1
              injection this with e1 e2
              subst e1 e2
              exact ⟨withM_inv (joinM_inv n m f hi h1).1 h2, Or.inr (Or.inr rfl)⟩
        · obtain ⟨S1, h1, h2⟩ := Option.map_eq_some_iff.1 hj
          injection h2 with e1 e2
          subst e1 e2
          exact ⟨withM_inv hi h1, Or.inl rfl⟩
    · cases hj

set_option maxRecDepth 100000 in
set_option maxHeartbeats 6400000 in
theorem avl_join {ps : Nat} (n : Nd) (hn : NdLt n) (m : Nat) (hm : m < 18446744073709551616) : ∀ (f d : Nat), d + f = 100 → ∀ {w : World} {S S' : St} {Y : Nat → Prop} {l r x : Nat}, StOn w ps S Y → Inv S → l < 18446744073709551616 → r < 18446744073709551616 →
    joinM n m f S l r = some (x, S') →
    Calls Tryz.prog 299 #[PV ps, .int .u64 l, .int .u64 r, trV n m, .int .i64 d] w fun e w' => e = .returned (.int .u64 x) ∧ StOn w' ps S' Y ∧ Keep Y w w' := by
  intro f
  induction f with
  | zero =>
    intro d hd w S S' Y l r x h hi hl hr hj
    obtain rfl : d = 100 := by omega
    rw [joinM_zero] at hj
    obtain ⟨S1, h1, h2⟩ := Option.map_eq_some_iff.1 hj
    injection h2 with e1 e2
    subst e1 e2
    obtain ⟨a, b, -, -, ha, hb, -, -, -⟩ := withM_some h1
    have hA := fun W (hW : Below w.heap.size w W) => avl_height (h.below hW) hi l hl ha
    have hB := fun W (hW : Below w.heap.size w W) => avl_height (h.below hW) hi r hr hb
    have hW := fun W Z (hW : StOn W ps S Z) => avl_with hW hi n hn m l r hm hl hr h1
    obtain ⟨k0, k1, k2, k3, k4, k5⟩ := n
    simp only [trV] at hW ⊢
    have q0 := heap_alloc_new w (.cells #[.int .u64 k0, .int .u64 k1, .int .u64 k2, .int .u64 k3, .int .u64 k4, .int .u64 k5, .int .u64 m] 394)
    have B0 := (Below.refl w.heap.size w).alloc (Nat.le_refl _) (.cells #[.int .u64 k0, .int .u64 k1, .int .u64 k2, .int .u64 k3, .int .u64 k4, .int .u64 k5, .int .u64 m] 394)
    have HG := Lib.hid (And.intro hA (And.intro hB (And.intro hW (And.intro h (And.intro q0 B0)))))
    clear hA hB hW h hi hj h1 ha hb q0 B0 hd hn
    go_enter Tryz.func299, Tryz.ntmps299
    go_wp2_with fail
    refine (HG.out.1 _ HG.out.2.2.2.2.2).mono ?_
    rintro e w1 ⟨rfl, hb1⟩
    have H1 := Lib.hid (And.intro (HG.out.2.2.2.2.2.trans (hb1.mono HG.out.2.2.2.2.2.size)) ((hb1.block w.heap.size (by simp)).trans HG.out.2.2.2.2.1))
    clear hb1
    go_wp2_with fail
    refine (HG.out.2.1 _ H1.out.1).mono ?_
    rintro e w2 ⟨rfl, hb2⟩
    have r2 := (hb2.block w.heap.size (Array.getElem?_eq_some_iff.1 H1.out.2).1).trans H1.out.2
    have c0 : (w2).cell? ⟨w.heap.size, 0, none⟩ = some (.int .u64 k0) := by rw [cell_of_block r2]; rfl
    have c1 : (w2).cell? ⟨w.heap.size, 1, none⟩ = some (.int .u64 k1) := by rw [cell_of_block r2]; rfl
    have c2 : (w2).cell? ⟨w.heap.size, 2, none⟩ = some (.int .u64 k2) := by rw [cell_of_block r2]; rfl
    have c3 : (w2).cell? ⟨w.heap.size, 3, none⟩ = some (.int .u64 k3) := by rw [cell_of_block r2]; rfl
    have c4 : (w2).cell? ⟨w.heap.size, 4, none⟩ = some (.int .u64 k4) := by rw [cell_of_block r2]; rfl
    have c5 : (w2).cell? ⟨w.heap.size, 5, none⟩ = some (.int .u64 k5) := by rw [cell_of_block r2]; rfl
    have c6 : (w2).cell? ⟨w.heap.size, 6, none⟩ = some (.int .u64 m) := by rw [cell_of_block r2]; rfl
    have H2 := Lib.hid (H1.out.1.trans (hb2.mono H1.out.1.size))
    clear hb2 r2
    go_wp2_with fail
    refine (HG.out.2.2.1 _ _ (HG.out.2.2.2.1.below H2.out)).mono ?_
    rintro e w3 ⟨rfl, h3, k3'⟩
    have H3 := Lib.hid (And.intro h3 ((Keep.of_below H2.out HG.out.2.2.2.1.yl).trans k3'))
    clear h3 k3'
    go_wp2_with fail
    go_ret
    exact ⟨rfl, H3.out⟩
  | succ f ih =>
    intro d hd w S S' Y l r x h hi hl hr hj
    have hx := (joinM_inv n m (f + 1) hi hj).2
    rw [joinM_succ] at hj
    split at hj
    case h_2 => cases hj
    rename_i a b ha hb
    have hal : a < 4611686018427387904 := by have := num_some ha; omega
    have hbl : b < 4611686018427387904 := by have := num_some hb; omega
    have hA := fun W (hW : Below w.heap.size w W) => avl_height (h.below hW) hi l hl ha
    have hB := fun W (hW : Below w.heap.size w W) => avl_height (h.below hW) hi r hr hb
    have hdq : ((d : Int) == 100) = false := by simp; omega
    split at hj
    · rename_i hba
      have hq1 : ((b : Int) + 1 < a) = True := eq_true (by omega)
      split at hj
      · cases hj
      rename_i x1 S1 hj1
      split at hj
      · cases hj
      rename_i S2 hj2
      have hbe := (balanceM_some hj).1
      injection hbe with e1 e2
      subst e2
      rw [e1] at hj ⊢
      obtain ⟨hi1, hx1⟩ := joinM_inv n m f hi hj1
      have hi2 := withM_inv hi1 hj2
      have hgl := getNode_lt h l
      have hx1l : x1 < 18446744073709551616 := by have := hgl.right; rcases hx1 with e | e | e <;> omega
      have hg := fun W (hW : Below w.heap.size w W) => avl_get (h.below hW) hi l hl
      have cr := fun W Z (hW : StOn W ps S Z) => ih (d + 1) (by omega) hW hi hgl.right hr hj1
      have cw := fun W Z (hW : StOn W ps S1 Z) => avl_with hW hi1 (getNode S l).1 hgl l (getNode S l).1.left x1 hl hgl.left hx1l hj2
      have cb := fun W Z (hW : StOn W ps S' Z) => avl_balance hW hi2 _ hl hj
      obtain ⟨⟨⟨g0, g1, g2, g3, g4, g5⟩, er⟩, hE⟩ : ∃ r, getNode S l = r := ⟨_, rfl⟩
      rw [hE] at hg cr cw
      obtain ⟨k0, k1, k2, k3, k4, k5⟩ := n
      simp only [trV] at hg cr cw ⊢
      have hdw : IntKind.i64.wrap ((d : Int) + 1) = (d : Int) + 1 := IntWalk.i64_in _ (by omega)
      have q0 := heap_alloc_new w (.cells #[.int .u64 k0, .int .u64 k1, .int .u64 k2, .int .u64 k3, .int .u64 k4, .int .u64 k5, .int .u64 m] 394)
      have B0 := (Below.refl w.heap.size w).alloc (Nat.le_refl _) (.cells #[.int .u64 k0, .int .u64 k1, .int .u64 k2, .int .u64 k3, .int .u64 k4, .int .u64 k5, .int .u64 m] 394)
      have HG := Lib.hid (And.intro hA (And.intro hB (And.intro hg (And.intro h (And.intro q0 (And.intro B0 (And.intro cr (And.intro cw cb))))))))
      clear hA hB hg cr cw cb h hi hi1 hi2 hj hj1 hj2 ha hb q0 B0 ih hn hgl hx hx1 hE e1
      go_enter Tryz.func299, Tryz.ntmps299
      go_wp2_with fail
      refine (HG.out.1 _ HG.out.2.2.2.2.2.1).mono ?_
      rintro e w1 ⟨rfl, hb1⟩
      have H1 := Lib.hid (And.intro (HG.out.2.2.2.2.2.1.trans (hb1.mono HG.out.2.2.2.2.2.1.size)) ((hb1.block w.heap.size (by simp)).trans HG.out.2.2.2.2.1))
      clear hb1
      go_wp2_with fail
      refine (HG.out.2.1 _ H1.out.1).mono ?_
      rintro e w2 ⟨rfl, hb2⟩
      have H2 := Lib.hid (And.intro (H1.out.1.trans (hb2.mono H1.out.1.size)) ((hb2.block w.heap.size (Array.getElem?_eq_some_iff.1 H1.out.2).1).trans H1.out.2))
      clear hb2
      go_wp2_with fail
      refine (HG.out.2.2.1 _ H2.out.1).mono ?_
      rintro e w3 ⟨rfl, hb3⟩
      have r3 := (hb3.block w.heap.size (Array.getElem?_eq_some_iff.1 H2.out.2).1).trans H2.out.2
      have B3 := H2.out.1.trans (hb3.mono H2.out.1.size)
      have q4 := heap_alloc_new w3 (.cells #[.int .u64 g0, .int .u64 g1, .int .u64 g2, .int .u64 g3, .int .u64 g4, .int .u64 g5, .int .u64 l] 394)
      have r4 := (((Below.refl w3.heap.size w3).alloc (Nat.le_refl _) (.cells #[.int .u64 g0, .int .u64 g1, .int .u64 g2, .int .u64 g3, .int .u64 g4, .int .u64 g5, .int .u64 l] 394)).block w.heap.size (Array.getElem?_eq_some_iff.1 r3).1).trans r3
      have B4 := B3.alloc B3.size (.cells #[.int .u64 g0, .int .u64 g1, .int .u64 g2, .int .u64 g3, .int .u64 g4, .int .u64 g5, .int .u64 l] 394)
      clear hb3 r3
      have hsz := B3.size
      go_wp2_with fail
      generalize w3.alloc (.cells #[.int .u64 g0, .int .u64 g1, .int .u64 g2, .int .u64 g3, .int .u64 g4, .int .u64 g5, .int .u64 l] 394) = W at *
      generalize w3.heap.size = b13 at *
      have lt8 := (Array.getElem?_eq_some_iff.1 r4).1
      have lt13 := (Array.getElem?_eq_some_iff.1 q4).1
      have zw := HG.out.2.2.2.1.wide B4
      have HZ := Lib.hid (And.intro zw (And.intro r4 (And.intro q4 (And.intro B4 hsz))))
      obtain ⟨I, hIi, hIo⟩ : ∃ I : World → Prop, (∀ w', I w' → w'.heap[w.heap.size]? = some (.cells #[.int .u64 k0, .int .u64 k1, .int .u64 k2, .int .u64 k3, .int .u64 k4, .int .u64 k5, .int .u64 m] 394) ∧ w'.heap[b13]? = some (.cells #[.int .u64 g0, .int .u64 g1, .int .u64 g2, .int .u64 g3, .int .u64 g4, .int .u64 g5, .int .u64 l] 394)) ∧ (∀ w', w'.heap[w.heap.size]? = some (.cells #[.int .u64 k0, .int .u64 k1, .int .u64 k2, .int .u64 k3, .int .u64 k4, .int .u64 k5, .int .u64 m] 394) → w'.heap[b13]? = some (.cells #[.int .u64 g0, .int .u64 g1, .int .u64 g2, .int .u64 g3, .int .u64 g4, .int .u64 g5, .int .u64 l] 394) → I w') := ⟨fun w' => w'.heap[w.heap.size]? = some (.cells #[.int .u64 k0, .int .u64 k1, .int .u64 k2, .int .u64 k3, .int .u64 k4, .int .u64 k5, .int .u64 m] 394) ∧ w'.heap[b13]? = some (.cells #[.int .u64 g0, .int .u64 g1, .int .u64 g2, .int .u64 g3, .int .u64 g4, .int .u64 g5, .int .u64 l] 394), fun _ h => h, fun _ a b => ⟨a, b⟩⟩
      have hy0 := fun x : Keeps I => (hIi _ x.ok).1
      have hz0 := fun x : Keeps I => (hIi _ x.ok).2
      have y0 : ∀ x : Keeps I, x.to.cell? ⟨w.heap.size, 0, none⟩ = some (.int .u64 k0) := fun x => by rw [cell_of_block (hy0 x)]; rfl
      have y1 : ∀ x : Keeps I, x.to.cell? ⟨w.heap.size, 1, none⟩ = some (.int .u64 k1) := fun x => by rw [cell_of_block (hy0 x)]; rfl
      have y2 : ∀ x : Keeps I, x.to.cell? ⟨w.heap.size, 2, none⟩ = some (.int .u64 k2) := fun x => by rw [cell_of_block (hy0 x)]; rfl
      have y3 : ∀ x : Keeps I, x.to.cell? ⟨w.heap.size, 3, none⟩ = some (.int .u64 k3) := fun x => by rw [cell_of_block (hy0 x)]; rfl
      have y4 : ∀ x : Keeps I, x.to.cell? ⟨w.heap.size, 4, none⟩ = some (.int .u64 k4) := fun x => by rw [cell_of_block (hy0 x)]; rfl
      have y5 : ∀ x : Keeps I, x.to.cell? ⟨w.heap.size, 5, none⟩ = some (.int .u64 k5) := fun x => by rw [cell_of_block (hy0 x)]; rfl
      have y6 : ∀ x : Keeps I, x.to.cell? ⟨w.heap.size, 6, none⟩ = some (.int .u64 m) := fun x => by rw [cell_of_block (hy0 x)]; rfl
      have z0 : ∀ x : Keeps I, x.to.cell? ⟨b13, 0, none⟩ = some (.int .u64 g0) := fun x => by rw [cell_of_block (hz0 x)]; rfl
      have z1 : ∀ x : Keeps I, x.to.cell? ⟨b13, 1, none⟩ = some (.int .u64 g1) := fun x => by rw [cell_of_block (hz0 x)]; rfl
      have z2 : ∀ x : Keeps I, x.to.cell? ⟨b13, 2, none⟩ = some (.int .u64 g2) := fun x => by rw [cell_of_block (hz0 x)]; rfl
      have z3 : ∀ x : Keeps I, x.to.cell? ⟨b13, 3, none⟩ = some (.int .u64 g3) := fun x => by rw [cell_of_block (hz0 x)]; rfl
      have z4 : ∀ x : Keeps I, x.to.cell? ⟨b13, 4, none⟩ = some (.int .u64 g4) := fun x => by rw [cell_of_block (hz0 x)]; rfl
      have z5 : ∀ x : Keeps I, x.to.cell? ⟨b13, 5, none⟩ = some (.int .u64 g5) := fun x => by rw [cell_of_block (hz0 x)]; rfl
      have z6 : ∀ x : Keeps I, x.to.cell? ⟨b13, 6, none⟩ = some (.int .u64 l) := fun x => by rw [cell_of_block (hz0 x)]; rfl
      have HI := Lib.hid hIo
      have hI0 : I W.drew := hIo _ r4 q4
      clear hy0 hz0 q4 r4 zw B4 hsz hIi hIo
      refine wp_region_held_tail I [0, 1, 2, 3, 4, 5, 6, 7, 8, 9, 10, 11, 12, 13] [14, 15, 16, 17] (by kernel_rfl) (by kernel_rfl) hI0 ?_
      refine' wpHeld_cons _ (by rfl) _ (by rfl) ?_ ?_
      rotate_left
      · rintro _ ⟨x, rfl⟩
        have hxy0 := y0 x
        have hxy1 := y1 x
        have hxy2 := y2 x
        have hxy3 := y3 x
        have hxy4 := y4 x
        have hxy5 := y5 x
        have hxy6 := y6 x
        have hxz0 := z0 x
        have hxz1 := z1 x
        have hxz2 := z2 x
        have hxz3 := z3 x
        have hxz4 := z4 x
        have hxz5 := z5 x
        have hxz6 := z6 x
        go_simp
        try with_reducible rfl
      simp only [Act.put, List.setIfInBounds_toArray, List.set_cons_zero, List.set_cons_succ]
      refine' wpHeld_cons _ (by rfl) _ (by rfl) ?_ ?_
      rotate_left
      · rintro _ ⟨x, rfl⟩
        have hxy0 := y0 x
        have hxy1 := y1 x
        have hxy2 := y2 x
        have hxy3 := y3 x
        have hxy4 := y4 x
        have hxy5 := y5 x
        have hxy6 := y6 x
        have hxz0 := z0 x
        have hxz1 := z1 x
        have hxz2 := z2 x
        have hxz3 := z3 x
        have hxz4 := z4 x
        have hxz5 := z5 x
        have hxz6 := z6 x
        go_simp
        try with_reducible rfl
      simp only [Act.put, List.setIfInBounds_toArray, List.set_cons_zero, List.set_cons_succ]
      refine' wpHeld_cons _ (by rfl) _ (by rfl) ?_ ?_
      rotate_left
      · rintro _ ⟨x, rfl⟩
        have hxy0 := y0 x
        have hxy1 := y1 x
        have hxy2 := y2 x
        have hxy3 := y3 x
        have hxy4 := y4 x
        have hxy5 := y5 x
        have hxy6 := y6 x
        have hxz0 := z0 x
        have hxz1 := z1 x
        have hxz2 := z2 x
        have hxz3 := z3 x
        have hxz4 := z4 x
        have hxz5 := z5 x
        have hxz6 := z6 x
        go_simp
        try with_reducible rfl
      simp only [Act.put, List.setIfInBounds_toArray, List.set_cons_zero, List.set_cons_succ]
      refine' wpHeld_cons _ (by rfl) _ (by rfl) ?_ ?_
      rotate_left
      · rintro _ ⟨x, rfl⟩
        have hxy0 := y0 x
        have hxy1 := y1 x
        have hxy2 := y2 x
        have hxy3 := y3 x
        have hxy4 := y4 x
        have hxy5 := y5 x
        have hxy6 := y6 x
        have hxz0 := z0 x
        have hxz1 := z1 x
        have hxz2 := z2 x
        have hxz3 := z3 x
        have hxz4 := z4 x
        have hxz5 := z5 x
        have hxz6 := z6 x
        go_simp
        try with_reducible rfl
      simp only [Act.put, List.setIfInBounds_toArray, List.set_cons_zero, List.set_cons_succ]
      refine' wpHeld_cons _ (by rfl) _ (by rfl) ?_ ?_
      rotate_left
      · rintro _ ⟨x, rfl⟩
        have hxy0 := y0 x
        have hxy1 := y1 x
        have hxy2 := y2 x
        have hxy3 := y3 x
        have hxy4 := y4 x
        have hxy5 := y5 x
        have hxy6 := y6 x
        have hxz0 := z0 x
        have hxz1 := z1 x
        have hxz2 := z2 x
        have hxz3 := z3 x
        have hxz4 := z4 x
        have hxz5 := z5 x
        have hxz6 := z6 x
        go_simp
        try with_reducible rfl
      simp only [Act.put, List.setIfInBounds_toArray, List.set_cons_zero, List.set_cons_succ]
      refine' wpHeld_cons _ (by rfl) _ (by rfl) ?_ ?_
      rotate_left
      · rintro _ ⟨x, rfl⟩
        have hxy0 := y0 x
        have hxy1 := y1 x
        have hxy2 := y2 x
        have hxy3 := y3 x
        have hxy4 := y4 x
        have hxy5 := y5 x
        have hxy6 := y6 x
        have hxz0 := z0 x
        have hxz1 := z1 x
        have hxz2 := z2 x
        have hxz3 := z3 x
        have hxz4 := z4 x
        have hxz5 := z5 x
        have hxz6 := z6 x
        go_simp
        try with_reducible rfl
      simp only [Act.put, List.setIfInBounds_toArray, List.set_cons_zero, List.set_cons_succ]
      refine' wpHeld_cons _ (by rfl) _ (by rfl) ?_ ?_
      rotate_left
      · rintro _ ⟨x, rfl⟩
        have hxy0 := y0 x
        have hxy1 := y1 x
        have hxy2 := y2 x
        have hxy3 := y3 x
        have hxy4 := y4 x
        have hxy5 := y5 x
        have hxy6 := y6 x
        have hxz0 := z0 x
        have hxz1 := z1 x
        have hxz2 := z2 x
        have hxz3 := z3 x
        have hxz4 := z4 x
        have hxz5 := z5 x
        have hxz6 := z6 x
        go_simp
        try with_reducible rfl
      simp only [Act.put, List.setIfInBounds_toArray, List.set_cons_zero, List.set_cons_succ]
      refine' wpHeld_cons _ (by rfl) _ (by rfl) ?_ ?_
      rotate_left
      · rintro _ ⟨x, rfl⟩
        have hxy0 := y0 x
        have hxy1 := y1 x
        have hxy2 := y2 x
        have hxy3 := y3 x
        have hxy4 := y4 x
        have hxy5 := y5 x
        have hxy6 := y6 x
        have hxz0 := z0 x
        have hxz1 := z1 x
        have hxz2 := z2 x
        have hxz3 := z3 x
        have hxz4 := z4 x
        have hxz5 := z5 x
        have hxz6 := z6 x
        go_simp
        try with_reducible rfl
      simp only [Act.put, List.setIfInBounds_toArray, List.set_cons_zero, List.set_cons_succ]
      refine' wpHeld_cons _ (by rfl) _ (by rfl) ?_ ?_
      rotate_left
      · rintro _ ⟨x, rfl⟩
        have hxy0 := y0 x
        have hxy1 := y1 x
        have hxy2 := y2 x
        have hxy3 := y3 x
        have hxy4 := y4 x
        have hxy5 := y5 x
        have hxy6 := y6 x
        have hxz0 := z0 x
        have hxz1 := z1 x
        have hxz2 := z2 x
        have hxz3 := z3 x
        have hxz4 := z4 x
        have hxz5 := z5 x
        have hxz6 := z6 x
        go_simp
        try with_reducible rfl
      simp only [Act.put, List.setIfInBounds_toArray, List.set_cons_zero, List.set_cons_succ]
      refine' wpHeld_cons _ (by rfl) _ (by rfl) ?_ ?_
      rotate_left
      · rintro _ ⟨x, rfl⟩
        have hxy0 := y0 x
        have hxy1 := y1 x
        have hxy2 := y2 x
        have hxy3 := y3 x
        have hxy4 := y4 x
        have hxy5 := y5 x
        have hxy6 := y6 x
        have hxz0 := z0 x
        have hxz1 := z1 x
        have hxz2 := z2 x
        have hxz3 := z3 x
        have hxz4 := z4 x
        have hxz5 := z5 x
        have hxz6 := z6 x
        go_simp
        try with_reducible rfl
      simp only [Act.put, List.setIfInBounds_toArray, List.set_cons_zero, List.set_cons_succ]
      refine' wpHeld_cons _ (by rfl) _ (by rfl) ?_ ?_
      rotate_left
      · rintro _ ⟨x, rfl⟩
        have hxy0 := y0 x
        have hxy1 := y1 x
        have hxy2 := y2 x
        have hxy3 := y3 x
        have hxy4 := y4 x
        have hxy5 := y5 x
        have hxy6 := y6 x
        have hxz0 := z0 x
        have hxz1 := z1 x
        have hxz2 := z2 x
        have hxz3 := z3 x
        have hxz4 := z4 x
        have hxz5 := z5 x
        have hxz6 := z6 x
        go_simp
        try with_reducible rfl
      simp only [Act.put, List.setIfInBounds_toArray, List.set_cons_zero, List.set_cons_succ]
      refine' wpHeld_cons _ (by rfl) _ (by rfl) ?_ ?_
      rotate_left
      · rintro _ ⟨x, rfl⟩
        have hxy0 := y0 x
        have hxy1 := y1 x
        have hxy2 := y2 x
        have hxy3 := y3 x
        have hxy4 := y4 x
        have hxy5 := y5 x
        have hxy6 := y6 x
        have hxz0 := z0 x
        have hxz1 := z1 x
        have hxz2 := z2 x
        have hxz3 := z3 x
        have hxz4 := z4 x
        have hxz5 := z5 x
        have hxz6 := z6 x
        go_simp
        try with_reducible rfl
      simp only [Act.put, List.setIfInBounds_toArray, List.set_cons_zero, List.set_cons_succ]
      refine' wpHeld_cons _ (by rfl) _ (by rfl) ?_ ?_
      rotate_left
      · rintro _ ⟨x, rfl⟩
        have hxy0 := y0 x
        have hxy1 := y1 x
        have hxy2 := y2 x
        have hxy3 := y3 x
        have hxy4 := y4 x
        have hxy5 := y5 x
        have hxy6 := y6 x
        have hxz0 := z0 x
        have hxz1 := z1 x
        have hxz2 := z2 x
        have hxz3 := z3 x
        have hxz4 := z4 x
        have hxz5 := z5 x
        have hxz6 := z6 x
        go_simp
        try with_reducible rfl
      simp only [Act.put, List.setIfInBounds_toArray, List.set_cons_zero, List.set_cons_succ]
      refine' wpHeld_cons _ (by rfl) _ (by rfl) ?_ ?_
      rotate_left
      · rintro _ ⟨x, rfl⟩
        have hxy0 := y0 x
        have hxy1 := y1 x
        have hxy2 := y2 x
        have hxy3 := y3 x
        have hxy4 := y4 x
        have hxy5 := y5 x
        have hxy6 := y6 x
        have hxz0 := z0 x
        have hxz1 := z1 x
        have hxz2 := z2 x
        have hxz3 := z3 x
        have hxz4 := z4 x
        have hxz5 := z5 x
        have hxz6 := z6 x
        go_simp
        try with_reducible rfl
      simp only [Act.put, List.setIfInBounds_toArray, List.set_cons_zero, List.set_cons_succ]
      refine wpHeld_nil ?_
      clear y0 y1 y2 y3 y4 y5 y6 z0 z1 z2 z3 z4 z5 z6
      refine wpSeqH_cons _ (by rfl) (by rfl) (fun K hK => ?_)
      go_simp
      refine (HG.out.2.2.2.2.2.2.1 _ _ (HZ.out.1.below (Below.refl _ _).drew)).mono ?_
      rintro e w5 ⟨rfl, h5, k5'⟩
      have u5 : w5.heap[w.heap.size]? = _ := (k5'.block _ (Or.inr ⟨Nat.le_refl _, lt8⟩)).trans HZ.out.2.1
      have v5 : w5.heap[b13]? = _ := (k5'.block _ (Or.inr ⟨HZ.out.2.2.2.2, lt13⟩)).trans HZ.out.2.2.1
      have H5 := Lib.hid (And.intro h5 (And.intro k5' (And.intro u5 v5)))
      clear h5 k5' u5 v5
      try go_simp
      refine hK.out _ _ (HI.out _ H5.out.2.2.1 H5.out.2.2.2) ?_
      clear hK K
      try simp only [Act.put, List.setIfInBounds_toArray, List.set_cons_zero, List.set_cons_succ]
      refine wpSeqH_cons _ (by rfl) (by rfl) (fun K hK => ?_)
      go_simp
      refine (HG.out.2.2.2.2.2.2.2.1 _ _ H5.out.1).mono ?_
      rintro e w6 ⟨rfl, h6, k6'⟩
      have u6 : w6.heap[w.heap.size]? = _ := (k6'.block _ (Or.inr ⟨Nat.le_refl _, lt8⟩)).trans H5.out.2.2.1
      have v6 : w6.heap[b13]? = _ := (k6'.block _ (Or.inr ⟨HZ.out.2.2.2.2, lt13⟩)).trans H5.out.2.2.2
      have H6 := Lib.hid (And.intro h6 (And.intro (H5.out.2.1.trans k6') (And.intro u6 v6)))
      clear h6 k6' u6 v6
      try go_simp
      refine hK.out _ _ (HI.out _ H6.out.2.2.1 H6.out.2.2.2) ?_
      clear hK K
      try simp only [Act.put, List.setIfInBounds_toArray, List.set_cons_zero, List.set_cons_succ]
      refine wpSeqH_cons _ (by rfl) (by rfl) (fun K hK => ?_)
      go_simp
      refine (HG.out.2.2.2.2.2.2.2.2 _ _ H6.out.1).mono ?_
      rintro e w7 ⟨rfl, hb7⟩
      have l6 := (Array.getElem?_eq_some_iff.1 H6.out.2.2.1).1
      have l6' := (Array.getElem?_eq_some_iff.1 H6.out.2.2.2).1
      have u7 : w7.heap[w.heap.size]? = _ := (hb7.block _ l6).trans H6.out.2.2.1
      have v7 : w7.heap[b13]? = _ := (hb7.block _ l6').trans H6.out.2.2.2
      have H7 := Lib.hid (And.intro (H6.out.1.below hb7) (And.intro (H6.out.2.1.trans (H6.out.1.keep hb7)) (And.intro u7 v7)))
      clear hb7 u7 v7 l6 l6'
      try go_simp
      refine hK.out _ _ (HI.out _ H7.out.2.2.1 H7.out.2.2.2) ?_
      clear hK K
      try simp only [Act.put, List.setIfInBounds_toArray, List.set_cons_zero, List.set_cons_succ]
      refine wpSeqH_cons _ (by rfl) (by rfl) (fun K hK => ?_)
      try go_simp
      refine hK.out _ _ (HI.out _ H7.out.2.2.1 H7.out.2.2.2) ?_
      clear hK K
      try simp only [Act.put, List.setIfInBounds_toArray, List.set_cons_zero, List.set_cons_succ]
      refine wpSeqH_nil ?_
      go_wp2_with fail
      go_ret
      exact ⟨rfl, H7.out.1.mono fun k hk => Or.inl hk, (Keep.of_below HZ.out.2.2.2.1.drew HG.out.2.2.2.1.yl).trans (H7.out.2.1.mono fun k hk => Or.inl hk)⟩
    · split at hj
      · rename_i hab
        have hq1 : ((b : Int) + 1 < a) = False := eq_false (by omega)
        have hq2 : ((a : Int) + 1 < b) = True := eq_true (by omega)
        split at hj
        · cases hj
        rename_i x1 S1 hj1
        split at hj
        · cases hj
        rename_i S2 hj2
        have hbe := (balanceM_some hj).1
        injection hbe with e1 e2
        subst e2
        rw [e1] at hj ⊢
        obtain ⟨hi1, hx1⟩ := joinM_inv n m f hi hj1
        have hi2 := withM_inv hi1 hj2
        have hgl := getNode_lt h r
        have hx1l : x1 < 18446744073709551616 := by have := hgl.left; rcases hx1 with e | e | e <;> omega
        have hg := fun W (hW : Below w.heap.size w W) => avl_get (h.below hW) hi r hr
        have cr := fun W Z (hW : StOn W ps S Z) => ih (d + 1) (by omega) hW hi hl hgl.left hj1
        have cw := fun W Z (hW : StOn W ps S1 Z) => avl_with hW hi1 (getNode S r).1 hgl r x1 (getNode S r).1.right hr hx1l hgl.right hj2
        have cb := fun W Z (hW : StOn W ps S' Z) => avl_balance hW hi2 _ hr hj
        obtain ⟨⟨⟨g0, g1, g2, g3, g4, g5⟩, er⟩, hE⟩ : ∃ q, getNode S r = q := ⟨_, rfl⟩
        rw [hE] at hg cr cw
        obtain ⟨k0, k1, k2, k3, k4, k5⟩ := n
        simp only [trV] at hg cr cw ⊢
        have hdw : IntKind.i64.wrap ((d : Int) + 1) = (d : Int) + 1 := IntWalk.i64_in _ (by omega)
        have q0 := heap_alloc_new w (.cells #[.int .u64 k0, .int .u64 k1, .int .u64 k2, .int .u64 k3, .int .u64 k4, .int .u64 k5, .int .u64 m] 394)
        have B0 := (Below.refl w.heap.size w).alloc (Nat.le_refl _) (.cells #[.int .u64 k0, .int .u64 k1, .int .u64 k2, .int .u64 k3, .int .u64 k4, .int .u64 k5, .int .u64 m] 394)
        have HG := Lib.hid (And.intro hA (And.intro hB (And.intro hg (And.intro h (And.intro q0 (And.intro B0 (And.intro cr (And.intro cw cb))))))))
        clear hA hB hg cr cw cb h hi hi1 hi2 hj hj1 hj2 ha hb q0 B0 ih hn hgl hx hx1 hE e1
        go_enter Tryz.func299, Tryz.ntmps299
        go_wp2_with fail
        refine (HG.out.1 _ HG.out.2.2.2.2.2.1).mono ?_
        rintro e w1 ⟨rfl, hb1⟩
        have H1 := Lib.hid (And.intro (HG.out.2.2.2.2.2.1.trans (hb1.mono HG.out.2.2.2.2.2.1.size)) ((hb1.block w.heap.size (by simp)).trans HG.out.2.2.2.2.1))
        clear hb1
        go_wp2_with fail
        refine (HG.out.2.1 _ H1.out.1).mono ?_
        rintro e w2 ⟨rfl, hb2⟩
        have H2 := Lib.hid (And.intro (H1.out.1.trans (hb2.mono H1.out.1.size)) ((hb2.block w.heap.size (Array.getElem?_eq_some_iff.1 H1.out.2).1).trans H1.out.2))
        clear hb2
        go_wp2_with fail
        refine (HG.out.2.2.1 _ H2.out.1).mono ?_
        rintro e w3 ⟨rfl, hb3⟩
        have r3 := (hb3.block w.heap.size (Array.getElem?_eq_some_iff.1 H2.out.2).1).trans H2.out.2
        have B3 := H2.out.1.trans (hb3.mono H2.out.1.size)
        have q4 := heap_alloc_new w3 (.cells #[.int .u64 g0, .int .u64 g1, .int .u64 g2, .int .u64 g3, .int .u64 g4, .int .u64 g5, .int .u64 r] 394)
        have r4 := (((Below.refl w3.heap.size w3).alloc (Nat.le_refl _) (.cells #[.int .u64 g0, .int .u64 g1, .int .u64 g2, .int .u64 g3, .int .u64 g4, .int .u64 g5, .int .u64 r] 394)).block w.heap.size (Array.getElem?_eq_some_iff.1 r3).1).trans r3
        have B4 := B3.alloc B3.size (.cells #[.int .u64 g0, .int .u64 g1, .int .u64 g2, .int .u64 g3, .int .u64 g4, .int .u64 g5, .int .u64 r] 394)
        clear hb3 r3
        have hsz := B3.size
        go_wp2_with fail
        generalize w3.alloc (.cells #[.int .u64 g0, .int .u64 g1, .int .u64 g2, .int .u64 g3, .int .u64 g4, .int .u64 g5, .int .u64 r] 394) = W at *
        generalize w3.heap.size = b13 at *
        have lt8 := (Array.getElem?_eq_some_iff.1 r4).1
        have lt13 := (Array.getElem?_eq_some_iff.1 q4).1
        have zw := HG.out.2.2.2.1.wide B4
        have HZ := Lib.hid (And.intro zw (And.intro r4 (And.intro q4 (And.intro B4 hsz))))
        obtain ⟨I, hIi, hIo⟩ : ∃ I : World → Prop, (∀ w', I w' → w'.heap[w.heap.size]? = some (.cells #[.int .u64 k0, .int .u64 k1, .int .u64 k2, .int .u64 k3, .int .u64 k4, .int .u64 k5, .int .u64 m] 394) ∧ w'.heap[b13]? = some (.cells #[.int .u64 g0, .int .u64 g1, .int .u64 g2, .int .u64 g3, .int .u64 g4, .int .u64 g5, .int .u64 r] 394)) ∧ (∀ w', w'.heap[w.heap.size]? = some (.cells #[.int .u64 k0, .int .u64 k1, .int .u64 k2, .int .u64 k3, .int .u64 k4, .int .u64 k5, .int .u64 m] 394) → w'.heap[b13]? = some (.cells #[.int .u64 g0, .int .u64 g1, .int .u64 g2, .int .u64 g3, .int .u64 g4, .int .u64 g5, .int .u64 r] 394) → I w') := ⟨fun w' => w'.heap[w.heap.size]? = some (.cells #[.int .u64 k0, .int .u64 k1, .int .u64 k2, .int .u64 k3, .int .u64 k4, .int .u64 k5, .int .u64 m] 394) ∧ w'.heap[b13]? = some (.cells #[.int .u64 g0, .int .u64 g1, .int .u64 g2, .int .u64 g3, .int .u64 g4, .int .u64 g5, .int .u64 r] 394), fun _ h => h, fun _ a b => ⟨a, b⟩⟩
        have hy0 := fun x : Keeps I => (hIi _ x.ok).1
        have hz0 := fun x : Keeps I => (hIi _ x.ok).2
        have y0 : ∀ x : Keeps I, x.to.cell? ⟨w.heap.size, 0, none⟩ = some (.int .u64 k0) := fun x => by rw [cell_of_block (hy0 x)]; rfl
        have y1 : ∀ x : Keeps I, x.to.cell? ⟨w.heap.size, 1, none⟩ = some (.int .u64 k1) := fun x => by rw [cell_of_block (hy0 x)]; rfl
        have y2 : ∀ x : Keeps I, x.to.cell? ⟨w.heap.size, 2, none⟩ = some (.int .u64 k2) := fun x => by rw [cell_of_block (hy0 x)]; rfl
        have y3 : ∀ x : Keeps I, x.to.cell? ⟨w.heap.size, 3, none⟩ = some (.int .u64 k3) := fun x => by rw [cell_of_block (hy0 x)]; rfl
        have y4 : ∀ x : Keeps I, x.to.cell? ⟨w.heap.size, 4, none⟩ = some (.int .u64 k4) := fun x => by rw [cell_of_block (hy0 x)]; rfl
        have y5 : ∀ x : Keeps I, x.to.cell? ⟨w.heap.size, 5, none⟩ = some (.int .u64 k5) := fun x => by rw [cell_of_block (hy0 x)]; rfl
        have y6 : ∀ x : Keeps I, x.to.cell? ⟨w.heap.size, 6, none⟩ = some (.int .u64 m) := fun x => by rw [cell_of_block (hy0 x)]; rfl
        have z0 : ∀ x : Keeps I, x.to.cell? ⟨b13, 0, none⟩ = some (.int .u64 g0) := fun x => by rw [cell_of_block (hz0 x)]; rfl
        have z1 : ∀ x : Keeps I, x.to.cell? ⟨b13, 1, none⟩ = some (.int .u64 g1) := fun x => by rw [cell_of_block (hz0 x)]; rfl
        have z2 : ∀ x : Keeps I, x.to.cell? ⟨b13, 2, none⟩ = some (.int .u64 g2) := fun x => by rw [cell_of_block (hz0 x)]; rfl
        have z3 : ∀ x : Keeps I, x.to.cell? ⟨b13, 3, none⟩ = some (.int .u64 g3) := fun x => by rw [cell_of_block (hz0 x)]; rfl
        have z4 : ∀ x : Keeps I, x.to.cell? ⟨b13, 4, none⟩ = some (.int .u64 g4) := fun x => by rw [cell_of_block (hz0 x)]; rfl
        have z5 : ∀ x : Keeps I, x.to.cell? ⟨b13, 5, none⟩ = some (.int .u64 g5) := fun x => by rw [cell_of_block (hz0 x)]; rfl
        have z6 : ∀ x : Keeps I, x.to.cell? ⟨b13, 6, none⟩ = some (.int .u64 r) := fun x => by rw [cell_of_block (hz0 x)]; rfl
        have HI := Lib.hid hIo
        have hI0 : I W.drew := hIo _ r4 q4
        clear hy0 hz0 q4 r4 zw B4 hsz hIi hIo
        refine wp_region_held_tail I [0, 1, 2, 3, 4, 5, 6, 7, 8, 9, 10, 12, 13, 14] [11, 15, 16, 17] (by kernel_rfl) (by kernel_rfl) hI0 ?_
        refine' wpHeld_cons _ (by rfl) _ (by rfl) ?_ ?_
        rotate_left
        · rintro _ ⟨x, rfl⟩
          have hxy0 := y0 x
          have hxy1 := y1 x
          have hxy2 := y2 x
          have hxy3 := y3 x
          have hxy4 := y4 x
          have hxy5 := y5 x
          have hxy6 := y6 x
          have hxz0 := z0 x
          have hxz1 := z1 x
          have hxz2 := z2 x
          have hxz3 := z3 x
          have hxz4 := z4 x
          have hxz5 := z5 x
          have hxz6 := z6 x
          go_simp
          try with_reducible rfl
        simp only [Act.put, List.setIfInBounds_toArray, List.set_cons_zero, List.set_cons_succ]
        refine' wpHeld_cons _ (by rfl) _ (by rfl) ?_ ?_
        rotate_left
        · rintro _ ⟨x, rfl⟩
          have hxy0 := y0 x
          have hxy1 := y1 x
          have hxy2 := y2 x
          have hxy3 := y3 x
          have hxy4 := y4 x
          have hxy5 := y5 x
          have hxy6 := y6 x
          have hxz0 := z0 x
          have hxz1 := z1 x
          have hxz2 := z2 x
          have hxz3 := z3 x
          have hxz4 := z4 x
          have hxz5 := z5 x
          have hxz6 := z6 x
          go_simp
          try with_reducible rfl
        simp only [Act.put, List.setIfInBounds_toArray, List.set_cons_zero, List.set_cons_succ]
        refine' wpHeld_cons _ (by rfl) _ (by rfl) ?_ ?_
        rotate_left
        · rintro _ ⟨x, rfl⟩
          have hxy0 := y0 x
          have hxy1 := y1 x
          have hxy2 := y2 x
          have hxy3 := y3 x
          have hxy4 := y4 x
          have hxy5 := y5 x
          have hxy6 := y6 x
          have hxz0 := z0 x
          have hxz1 := z1 x
          have hxz2 := z2 x
          have hxz3 := z3 x
          have hxz4 := z4 x
          have hxz5 := z5 x
          have hxz6 := z6 x
          go_simp
          try with_reducible rfl
        simp only [Act.put, List.setIfInBounds_toArray, List.set_cons_zero, List.set_cons_succ]
        refine' wpHeld_cons _ (by rfl) _ (by rfl) ?_ ?_
        rotate_left
        · rintro _ ⟨x, rfl⟩
          have hxy0 := y0 x
          have hxy1 := y1 x
          have hxy2 := y2 x
          have hxy3 := y3 x
          have hxy4 := y4 x
          have hxy5 := y5 x
          have hxy6 := y6 x
          have hxz0 := z0 x
          have hxz1 := z1 x
          have hxz2 := z2 x
          have hxz3 := z3 x
          have hxz4 := z4 x
          have hxz5 := z5 x
          have hxz6 := z6 x
          go_simp
          try with_reducible rfl
        simp only [Act.put, List.setIfInBounds_toArray, List.set_cons_zero, List.set_cons_succ]
        refine' wpHeld_cons _ (by rfl) _ (by rfl) ?_ ?_
        rotate_left
        · rintro _ ⟨x, rfl⟩
          have hxy0 := y0 x
          have hxy1 := y1 x
          have hxy2 := y2 x
          have hxy3 := y3 x
          have hxy4 := y4 x
          have hxy5 := y5 x
          have hxy6 := y6 x
          have hxz0 := z0 x
          have hxz1 := z1 x
          have hxz2 := z2 x
          have hxz3 := z3 x
          have hxz4 := z4 x
          have hxz5 := z5 x
          have hxz6 := z6 x
          go_simp
          try with_reducible rfl
        simp only [Act.put, List.setIfInBounds_toArray, List.set_cons_zero, List.set_cons_succ]
        refine' wpHeld_cons _ (by rfl) _ (by rfl) ?_ ?_
        rotate_left
        · rintro _ ⟨x, rfl⟩
          have hxy0 := y0 x
          have hxy1 := y1 x
          have hxy2 := y2 x
          have hxy3 := y3 x
          have hxy4 := y4 x
          have hxy5 := y5 x
          have hxy6 := y6 x
          have hxz0 := z0 x
          have hxz1 := z1 x
          have hxz2 := z2 x
          have hxz3 := z3 x
          have hxz4 := z4 x
          have hxz5 := z5 x
          have hxz6 := z6 x
          go_simp
          try with_reducible rfl
        simp only [Act.put, List.setIfInBounds_toArray, List.set_cons_zero, List.set_cons_succ]
        refine' wpHeld_cons _ (by rfl) _ (by rfl) ?_ ?_
        rotate_left
        · rintro _ ⟨x, rfl⟩
          have hxy0 := y0 x
          have hxy1 := y1 x
          have hxy2 := y2 x
          have hxy3 := y3 x
          have hxy4 := y4 x
          have hxy5 := y5 x
          have hxy6 := y6 x
          have hxz0 := z0 x
          have hxz1 := z1 x
          have hxz2 := z2 x
          have hxz3 := z3 x
          have hxz4 := z4 x
          have hxz5 := z5 x
          have hxz6 := z6 x
          go_simp
          try with_reducible rfl
        simp only [Act.put, List.setIfInBounds_toArray, List.set_cons_zero, List.set_cons_succ]
        refine' wpHeld_cons _ (by rfl) _ (by rfl) ?_ ?_
        rotate_left
        · rintro _ ⟨x, rfl⟩
          have hxy0 := y0 x
          have hxy1 := y1 x
          have hxy2 := y2 x
          have hxy3 := y3 x
          have hxy4 := y4 x
          have hxy5 := y5 x
          have hxy6 := y6 x
          have hxz0 := z0 x
          have hxz1 := z1 x
          have hxz2 := z2 x
          have hxz3 := z3 x
          have hxz4 := z4 x
          have hxz5 := z5 x
          have hxz6 := z6 x
          go_simp
          try with_reducible rfl
        simp only [Act.put, List.setIfInBounds_toArray, List.set_cons_zero, List.set_cons_succ]
        refine' wpHeld_cons _ (by rfl) _ (by rfl) ?_ ?_
        rotate_left
        · rintro _ ⟨x, rfl⟩
          have hxy0 := y0 x
          have hxy1 := y1 x
          have hxy2 := y2 x
          have hxy3 := y3 x
          have hxy4 := y4 x
          have hxy5 := y5 x
          have hxy6 := y6 x
          have hxz0 := z0 x
          have hxz1 := z1 x
          have hxz2 := z2 x
          have hxz3 := z3 x
          have hxz4 := z4 x
          have hxz5 := z5 x
          have hxz6 := z6 x
          go_simp
          try with_reducible rfl
        simp only [Act.put, List.setIfInBounds_toArray, List.set_cons_zero, List.set_cons_succ]
        refine' wpHeld_cons _ (by rfl) _ (by rfl) ?_ ?_
        rotate_left
        · rintro _ ⟨x, rfl⟩
          have hxy0 := y0 x
          have hxy1 := y1 x
          have hxy2 := y2 x
          have hxy3 := y3 x
          have hxy4 := y4 x
          have hxy5 := y5 x
          have hxy6 := y6 x
          have hxz0 := z0 x
          have hxz1 := z1 x
          have hxz2 := z2 x
          have hxz3 := z3 x
          have hxz4 := z4 x
          have hxz5 := z5 x
          have hxz6 := z6 x
          go_simp
          try with_reducible rfl
        simp only [Act.put, List.setIfInBounds_toArray, List.set_cons_zero, List.set_cons_succ]
        refine' wpHeld_cons _ (by rfl) _ (by rfl) ?_ ?_
        rotate_left
        · rintro _ ⟨x, rfl⟩
          have hxy0 := y0 x
          have hxy1 := y1 x
          have hxy2 := y2 x
          have hxy3 := y3 x
          have hxy4 := y4 x
          have hxy5 := y5 x
          have hxy6 := y6 x
          have hxz0 := z0 x
          have hxz1 := z1 x
          have hxz2 := z2 x
          have hxz3 := z3 x
          have hxz4 := z4 x
          have hxz5 := z5 x
          have hxz6 := z6 x
          go_simp
          try with_reducible rfl
        simp only [Act.put, List.setIfInBounds_toArray, List.set_cons_zero, List.set_cons_succ]
        refine' wpHeld_cons _ (by rfl) _ (by rfl) ?_ ?_
        rotate_left
        · rintro _ ⟨x, rfl⟩
          have hxy0 := y0 x
          have hxy1 := y1 x
          have hxy2 := y2 x
          have hxy3 := y3 x
          have hxy4 := y4 x
          have hxy5 := y5 x
          have hxy6 := y6 x
          have hxz0 := z0 x
          have hxz1 := z1 x
          have hxz2 := z2 x
          have hxz3 := z3 x
          have hxz4 := z4 x
          have hxz5 := z5 x
          have hxz6 := z6 x
          go_simp
          try with_reducible rfl
        simp only [Act.put, List.setIfInBounds_toArray, List.set_cons_zero, List.set_cons_succ]
        refine' wpHeld_cons _ (by rfl) _ (by rfl) ?_ ?_
        rotate_left
        · rintro _ ⟨x, rfl⟩
          have hxy0 := y0 x
          have hxy1 := y1 x
          have hxy2 := y2 x
          have hxy3 := y3 x
          have hxy4 := y4 x
          have hxy5 := y5 x
          have hxy6 := y6 x
          have hxz0 := z0 x
          have hxz1 := z1 x
          have hxz2 := z2 x
          have hxz3 := z3 x
          have hxz4 := z4 x
          have hxz5 := z5 x
          have hxz6 := z6 x
          go_simp
          try with_reducible rfl
        simp only [Act.put, List.setIfInBounds_toArray, List.set_cons_zero, List.set_cons_succ]
        refine' wpHeld_cons _ (by rfl) _ (by rfl) ?_ ?_
        rotate_left
        · rintro _ ⟨x, rfl⟩
          have hxy0 := y0 x
          have hxy1 := y1 x
          have hxy2 := y2 x
          have hxy3 := y3 x
          have hxy4 := y4 x
          have hxy5 := y5 x
          have hxy6 := y6 x
          have hxz0 := z0 x
          have hxz1 := z1 x
          have hxz2 := z2 x
          have hxz3 := z3 x
          have hxz4 := z4 x
          have hxz5 := z5 x
          have hxz6 := z6 x
          go_simp
          try with_reducible rfl
        simp only [Act.put, List.setIfInBounds_toArray, List.set_cons_zero, List.set_cons_succ]
        refine wpHeld_nil ?_
        clear y0 y1 y2 y3 y4 y5 y6 z0 z1 z2 z3 z4 z5 z6
        refine wpSeqH_cons _ (by rfl) (by rfl) (fun K hK => ?_)
        go_simp
        refine (HG.out.2.2.2.2.2.2.1 _ _ (HZ.out.1.below (Below.refl _ _).drew)).mono ?_
        rintro e w5 ⟨rfl, h5, k5'⟩
        have u5 : w5.heap[w.heap.size]? = _ := (k5'.block _ (Or.inr ⟨Nat.le_refl _, lt8⟩)).trans HZ.out.2.1
        have v5 : w5.heap[b13]? = _ := (k5'.block _ (Or.inr ⟨HZ.out.2.2.2.2, lt13⟩)).trans HZ.out.2.2.1
        have H5 := Lib.hid (And.intro h5 (And.intro k5' (And.intro u5 v5)))
        clear h5 k5' u5 v5
        try go_simp
        refine hK.out _ _ (HI.out _ H5.out.2.2.1 H5.out.2.2.2) ?_
        clear hK K
        try simp only [Act.put, List.setIfInBounds_toArray, List.set_cons_zero, List.set_cons_succ]
        refine wpSeqH_cons _ (by rfl) (by rfl) (fun K hK => ?_)
        go_simp
        refine (HG.out.2.2.2.2.2.2.2.1 _ _ H5.out.1).mono ?_
        rintro e w6 ⟨rfl, h6, k6'⟩
        have u6 : w6.heap[w.heap.size]? = _ := (k6'.block _ (Or.inr ⟨Nat.le_refl _, lt8⟩)).trans H5.out.2.2.1
        have v6 : w6.heap[b13]? = _ := (k6'.block _ (Or.inr ⟨HZ.out.2.2.2.2, lt13⟩)).trans H5.out.2.2.2
        have H6 := Lib.hid (And.intro h6 (And.intro (H5.out.2.1.trans k6') (And.intro u6 v6)))
        clear h6 k6' u6 v6
        try go_simp
        refine hK.out _ _ (HI.out _ H6.out.2.2.1 H6.out.2.2.2) ?_
        clear hK K
        try simp only [Act.put, List.setIfInBounds_toArray, List.set_cons_zero, List.set_cons_succ]
        refine wpSeqH_cons _ (by rfl) (by rfl) (fun K hK => ?_)
        go_simp
        refine (HG.out.2.2.2.2.2.2.2.2 _ _ H6.out.1).mono ?_
        rintro e w7 ⟨rfl, hb7⟩
        have l6 := (Array.getElem?_eq_some_iff.1 H6.out.2.2.1).1
        have l6' := (Array.getElem?_eq_some_iff.1 H6.out.2.2.2).1
        have u7 : w7.heap[w.heap.size]? = _ := (hb7.block _ l6).trans H6.out.2.2.1
        have v7 : w7.heap[b13]? = _ := (hb7.block _ l6').trans H6.out.2.2.2
        have H7 := Lib.hid (And.intro (H6.out.1.below hb7) (And.intro (H6.out.2.1.trans (H6.out.1.keep hb7)) (And.intro u7 v7)))
        clear hb7 u7 v7 l6 l6'
        try go_simp
        refine hK.out _ _ (HI.out _ H7.out.2.2.1 H7.out.2.2.2) ?_
        clear hK K
        try simp only [Act.put, List.setIfInBounds_toArray, List.set_cons_zero, List.set_cons_succ]
        refine wpSeqH_cons _ (by rfl) (by rfl) (fun K hK => ?_)
        try go_simp
        refine hK.out _ _ (HI.out _ H7.out.2.2.1 H7.out.2.2.2) ?_
        clear hK K
        try simp only [Act.put, List.setIfInBounds_toArray, List.set_cons_zero, List.set_cons_succ]
        refine wpSeqH_nil ?_
        go_wp2_with fail
        go_ret
        exact ⟨rfl, H7.out.1.mono fun k hk => Or.inl hk, (Keep.of_below HZ.out.2.2.2.1.drew HG.out.2.2.2.1.yl).trans (H7.out.2.1.mono fun k hk => Or.inl hk)⟩
      · rename_i hba hab
        have hq1 : ((b : Int) + 1 < a) = False := eq_false (by omega)
        have hq2 : ((a : Int) + 1 < b) = False := eq_false (by omega)
        obtain ⟨S1, h1, h2⟩ := Option.map_eq_some_iff.1 hj
        injection h2 with e1 e2
        subst e1 e2
        have hW := fun W Z (hW : StOn W ps S Z) => avl_with hW hi n hn m l r hm hl hr h1
        obtain ⟨k0, k1, k2, k3, k4, k5⟩ := n
        simp only [trV] at hW ⊢
        have q0 := heap_alloc_new w (.cells #[.int .u64 k0, .int .u64 k1, .int .u64 k2, .int .u64 k3, .int .u64 k4, .int .u64 k5, .int .u64 m] 394)
        have B0 := (Below.refl w.heap.size w).alloc (Nat.le_refl _) (.cells #[.int .u64 k0, .int .u64 k1, .int .u64 k2, .int .u64 k3, .int .u64 k4, .int .u64 k5, .int .u64 m] 394)
        have HG := Lib.hid (And.intro hA (And.intro hB (And.intro hW (And.intro h (And.intro q0 B0)))))
        clear hA hB hW h hi hj h1 ha hb q0 B0 hn hx ih
        go_enter Tryz.func299, Tryz.ntmps299
        go_wp2_with fail
        refine (HG.out.1 _ HG.out.2.2.2.2.2).mono ?_
        rintro e w1 ⟨rfl, hb1⟩
        have H1 := Lib.hid (And.intro (HG.out.2.2.2.2.2.trans (hb1.mono HG.out.2.2.2.2.2.size)) ((hb1.block w.heap.size (by simp)).trans HG.out.2.2.2.2.1))
        clear hb1
        go_wp2_with fail
        refine (HG.out.2.1 _ H1.out.1).mono ?_
        rintro e w2 ⟨rfl, hb2⟩
        have r2 := (hb2.block w.heap.size (Array.getElem?_eq_some_iff.1 H1.out.2).1).trans H1.out.2
        have c0 : (w2).cell? ⟨w.heap.size, 0, none⟩ = some (.int .u64 k0) := by rw [cell_of_block r2]; rfl
        have c1 : (w2).cell? ⟨w.heap.size, 1, none⟩ = some (.int .u64 k1) := by rw [cell_of_block r2]; rfl
        have c2 : (w2).cell? ⟨w.heap.size, 2, none⟩ = some (.int .u64 k2) := by rw [cell_of_block r2]; rfl
        have c3 : (w2).cell? ⟨w.heap.size, 3, none⟩ = some (.int .u64 k3) := by rw [cell_of_block r2]; rfl
        have c4 : (w2).cell? ⟨w.heap.size, 4, none⟩ = some (.int .u64 k4) := by rw [cell_of_block r2]; rfl
        have c5 : (w2).cell? ⟨w.heap.size, 5, none⟩ = some (.int .u64 k5) := by rw [cell_of_block r2]; rfl
        have c6 : (w2).cell? ⟨w.heap.size, 6, none⟩ = some (.int .u64 m) := by rw [cell_of_block r2]; rfl
        have H2 := Lib.hid (H1.out.1.trans (hb2.mono H1.out.1.size))
        clear hb2 r2
        go_wp2_with fail
        refine (HG.out.2.2.1 _ _ (HG.out.2.2.2.1.below H2.out)).mono ?_
        rintro e w3 ⟨rfl, h3, k3'⟩
        have H3 := Lib.hid (And.intro h3 ((Keep.of_below H2.out HG.out.2.2.2.1.yl).trans k3'))
        clear h3 k3'
        go_wp2_with fail
        go_ret
        exact ⟨rfl, H3.out⟩
end Go.Proofs.YtoaabbnieakidaaGreatDoorR
