/- Trees balanced by their heights: get, is, with: the walks. Trees balanced by their heights: with: the walk. A region that draws its order, some of whose operations only read what the calls leave as it was, and whose others come in one forced order (the calls, each handed what the one ahead of it gave): one walk: the reads first, in a told order, then the others, in a told order. -/
import Derived.Test.YtoaabbnieakidaaGreatDoorRGaq
import Derived.Deep.RegionHeld3
import Derived.Test.YtoaabbnieakidaaGreatDoorRGae
namespace Go.Proofs.YtoaabbnieakidaaGreatDoorR
open Go.RowKit Go.BigFrame Go.Maps Go.WideMaps Lf

/-- a tree's root as a value: the node, and where it is -/
def trV (n : Nd) (h : Nat) : Value := .agg #[.int .u64 n.key, .int .u64 n.val, .int .u64 n.left, .int .u64 n.right, .int .u64 n.mark, .int .u64 n.size, .int .u64 h]
/-- seven cells of a block, stored one by one -/
theorem st7_heap {W : World} {b : Nat} {u0 u1 u2 u3 u4 u5 u6 : Value} {t : TypeId} {fr : Nat × Nat} (h : W.heap[b]? = some (.cells #[u0, u1, u2, u3, u4, u5, u6] t fr)) (v0 v1 v2 v3 v4 v5 v6 : Value) : (((((((W.setCell ⟨b, 0, none⟩ (v0)).setCell ⟨b, 1, none⟩ (v1)).setCell ⟨b, 2, none⟩ (v2)).setCell ⟨b, 3, none⟩ (v3)).setCell ⟨b, 4, none⟩ (v4)).setCell ⟨b, 5, none⟩ (v5)).setCell ⟨b, 6, none⟩ (v6)).heap[b]? = some (.cells #[v0, v1, v2, v3, v4, v5, v6] t fr) := by
  rw [heap_setCell (heap_setCell (heap_setCell (heap_setCell (heap_setCell (heap_setCell (heap_setCell h))))))]
  rfl
theorem st7_below {w W : World} {b : Nat} (h : Below w.heap.size w W) (hb : w.heap.size ≤ b) (v0 v1 v2 v3 v4 v5 v6 : Value) : Below w.heap.size w (((((((W.setCell ⟨b, 0, none⟩ (v0)).setCell ⟨b, 1, none⟩ (v1)).setCell ⟨b, 2, none⟩ (v2)).setCell ⟨b, 3, none⟩ (v3)).setCell ⟨b, 4, none⟩ (v4)).setCell ⟨b, 5, none⟩ (v5)).setCell ⟨b, 6, none⟩ (v6)) :=
  ((((((h.setCell (p := ⟨b, 0, none⟩) hb _).setCell (p := ⟨b, 1, none⟩) hb _).setCell (p := ⟨b, 2, none⟩) hb _).setCell (p := ⟨b, 3, none⟩) hb _).setCell (p := ⟨b, 4, none⟩) hb _).setCell (p := ⟨b, 5, none⟩) hb _).setCell (p := ⟨b, 6, none⟩) hb _

set_option maxRecDepth 100000 in
set_option maxHeartbeats 800000 in
theorem avl_get {w : World} {ps : Nat} {S : St} {Y : Nat → Prop} (h : StOn w ps S Y) (hi : Inv S) (hh : Nat) (hl : hh < 18446744073709551616) :
    Calls Tryz.prog 300 #[PV ps, .int .u64 hh] w fun e w' => e = .returned (trV (getNode S hh).1 hh) ∧ Below w.heap.size w w' := by
  have hb1 : Below w.heap.size w (w.alloc (.cells #[.int .u64 0, .int .u64 0, .int .u64 0, .int .u64 0, .int .u64 0, .int .u64 0, .int .u64 0] 394)) := (Below.refl _ w).alloc (Nat.le_refl _) _
  have hg := node_get (h.below hb1) hi hh hl
  obtain ⟨⟨⟨k0, k1, k2, k3, k4, k5⟩, er⟩, hE⟩ : ∃ r, getNode S hh = r := ⟨_, rfl⟩
  rw [hE] at hg ⊢
  unfold ndV at hg
  unfold trV
  simp only at hg ⊢
  have hx := heap_alloc_new w (.cells #[.int .u64 0, .int .u64 0, .int .u64 0, .int .u64 0, .int .u64 0, .int .u64 0, .int .u64 0] 394)
  have HG := Lib.hid (And.intro hg (And.intro hb1 hx))
  clear hg hb1 h hi hE hx
  go_enter Tryz.func300, Tryz.ntmps300
  go_wp2_with fail
  refine HG.out.1.mono ?_
  rintro e w1 ⟨rfl, hb⟩
  have r0 := (hb.block w.heap.size (by simp)).trans HG.out.2.2
  have b0 : (w1).cell? ⟨w.heap.size, 0, none⟩ = some (.int .u64 0) := by rw [cell_of_block r0]; rfl
  have b1 : (w1).cell? ⟨w.heap.size, 1, none⟩ = some (.int .u64 0) := by rw [cell_of_block r0]; rfl
  have b2 : (w1).cell? ⟨w.heap.size, 2, none⟩ = some (.int .u64 0) := by rw [cell_of_block r0]; rfl
  have b3 : (w1).cell? ⟨w.heap.size, 3, none⟩ = some (.int .u64 0) := by rw [cell_of_block r0]; rfl
  have b4 : (w1).cell? ⟨w.heap.size, 4, none⟩ = some (.int .u64 0) := by rw [cell_of_block r0]; rfl
  have b5 : (w1).cell? ⟨w.heap.size, 5, none⟩ = some (.int .u64 0) := by rw [cell_of_block r0]; rfl
  have b6 : (w1).cell? ⟨w.heap.size, 6, none⟩ = some (.int .u64 0) := by rw [cell_of_block r0]; rfl
  have f0 : (w1).frozen? ⟨w.heap.size, 0, none⟩ = false := frozen_of_block r0
  have f1 : (w1).frozen? ⟨w.heap.size, 1, none⟩ = false := frozen_of_block r0
  have f2 : (w1).frozen? ⟨w.heap.size, 2, none⟩ = false := frozen_of_block r0
  have f3 : (w1).frozen? ⟨w.heap.size, 3, none⟩ = false := frozen_of_block r0
  have f4 : (w1).frozen? ⟨w.heap.size, 4, none⟩ = false := frozen_of_block r0
  have f5 : (w1).frozen? ⟨w.heap.size, 5, none⟩ = false := frozen_of_block r0
  have f6 : (w1).frozen? ⟨w.heap.size, 6, none⟩ = false := frozen_of_block r0
  have hlt : w.heap.size < w1.heap.size := (Array.getElem?_eq_some_iff.1 r0).1
  have HB := Lib.hid (And.intro r0 (HG.out.2.1.trans (hb.mono HG.out.2.1.size)))
  clear r0 hb
  go_wp2_with fail
  have hX := st7_heap HB.out.1 (.int .u64 k0) (.int .u64 k1) (.int .u64 k2) (.int .u64 k3) (.int .u64 k4) (.int .u64 k5) (.int .u64 hh)
  have hY := st7_below HB.out.2 (Nat.le_refl w.heap.size) (.int .u64 k0) (.int .u64 k1) (.int .u64 k2) (.int .u64 k3) (.int .u64 k4) (.int .u64 k5) (.int .u64 hh)
  have hs7 : (((((((w1.setCell ⟨w.heap.size, 0, none⟩ (.int .u64 k0)).setCell ⟨w.heap.size, 1, none⟩ (.int .u64 k1)).setCell ⟨w.heap.size, 2, none⟩ (.int .u64 k2)).setCell ⟨w.heap.size, 3, none⟩ (.int .u64 k3)).setCell ⟨w.heap.size, 4, none⟩ (.int .u64 k4)).setCell ⟨w.heap.size, 5, none⟩ (.int .u64 k5)).setCell ⟨w.heap.size, 6, none⟩ (.int .u64 hh)).heap.size = w1.heap.size := by simp
  generalize (((((((w1.setCell ⟨w.heap.size, 0, none⟩ (.int .u64 k0)).setCell ⟨w.heap.size, 1, none⟩ (.int .u64 k1)).setCell ⟨w.heap.size, 2, none⟩ (.int .u64 k2)).setCell ⟨w.heap.size, 3, none⟩ (.int .u64 k3)).setCell ⟨w.heap.size, 4, none⟩ (.int .u64 k4)).setCell ⟨w.heap.size, 5, none⟩ (.int .u64 k5)).setCell ⟨w.heap.size, 6, none⟩ (.int .u64 hh)) = W9 at *
  have hX2 : (W9.alloc (.cells #[.int .u64 k0, .int .u64 k1, .int .u64 k2, .int .u64 k3, .int .u64 k4, .int .u64 k5] 274)).heap[w.heap.size]? = some (.cells #[.int .u64 k0, .int .u64 k1, .int .u64 k2, .int .u64 k3, .int .u64 k4, .int .u64 k5, .int .u64 hh] 394 (0, 0)) := by rw [heap_alloc_old _ _ (by omega)]; exact hX
  have hY2 := hY.alloc hY.size (.cells #[.int .u64 k0, .int .u64 k1, .int .u64 k2, .int .u64 k3, .int .u64 k4, .int .u64 k5] 274)
  generalize W9.alloc (.cells #[.int .u64 k0, .int .u64 k1, .int .u64 k2, .int .u64 k3, .int .u64 k4, .int .u64 k5] 274) = W10 at *
  have e0 : (W10).cell? ⟨w.heap.size, 0, none⟩ = some (.int .u64 k0) := by rw [cell_of_block hX2]; rfl
  have e1 : (W10).cell? ⟨w.heap.size, 1, none⟩ = some (.int .u64 k1) := by rw [cell_of_block hX2]; rfl
  have e2 : (W10).cell? ⟨w.heap.size, 2, none⟩ = some (.int .u64 k2) := by rw [cell_of_block hX2]; rfl
  have e3 : (W10).cell? ⟨w.heap.size, 3, none⟩ = some (.int .u64 k3) := by rw [cell_of_block hX2]; rfl
  have e4 : (W10).cell? ⟨w.heap.size, 4, none⟩ = some (.int .u64 k4) := by rw [cell_of_block hX2]; rfl
  have e5 : (W10).cell? ⟨w.heap.size, 5, none⟩ = some (.int .u64 k5) := by rw [cell_of_block hX2]; rfl
  have e6 : (W10).cell? ⟨w.heap.size, 6, none⟩ = some (.int .u64 hh) := by rw [cell_of_block hX2]; rfl
  exact bodyPost_ret (v := .agg #[.int .u64 k0, .int .u64 k1, .int .u64 k2, .int .u64 k3, .int .u64 k4, .int .u64 k5, .int .u64 hh]) (by simp [results, Tryz.f300, go_sem, e0, e1, e2, e3, e4, e5, e6]) rfl ⟨rfl, hY2⟩

set_option maxRecDepth 100000 in
set_option maxHeartbeats 400000 in
theorem avl_is {w : World} {ps : Nat} {S : St} {Y : Nat → Prop} (h : StOn w ps S Y) (hi : Inv S) (hh : Nat) (hl : hh < 18446744073709551616) :
    Calls Tryz.prog 298 #[PV ps, .int .u64 hh] w fun e w' => e = .returned (.bool (isT S hh)) ∧ Below w.heap.size w w' := by
  have hg := node_get h hi hh hl
  obtain ⟨R, hR⟩ : ∃ R, isT S hh = R := ⟨_, rfl⟩
  rw [hR]
  unfold isT at hR
  obtain ⟨⟨⟨k0, k1, k2, k3, k4, k5⟩, er⟩, hE⟩ : ∃ r, getNode S hh = r := ⟨_, rfl⟩
  rw [hE] at hg hR
  unfold ndV at hg
  simp only at hg hR
  have hR1 : R = (((hh : Int) == 0) || ((er : Int) == 0)) := by
    rw [← hR]
    by_cases a : hh = 0 <;> by_cases b : er = 0 <;> simp [a, b] <;> omega
  have HG := Lib.hid (And.intro hg hR1)
  clear hg h hi hE hR hR1
  by_cases h0 : hh = 0
  · subst h0
    go_enter Tryz.func298, Tryz.ntmps298
    go_wp2_with fail
    refine HG.out.1.mono ?_
    rintro e w1 ⟨rfl, hb⟩
    have HB := Lib.hid (hb.alloc hb.size (.cells #[.int .u64 k0, .int .u64 k1, .int .u64 k2, .int .u64 k3, .int .u64 k4, .int .u64 k5] 274))
    clear hb
    go_wp2_with fail
    go_ret
    obtain rfl := HG.out.2
    exact ⟨by simp, HB.out⟩
  · have hq : ((hh : Int) == 0) = false := by simp; omega
    go_enter Tryz.func298, Tryz.ntmps298
    go_wp2_with fail
    refine HG.out.1.mono ?_
    rintro e w1 ⟨rfl, hb⟩
    have HB := Lib.hid (hb.alloc hb.size (.cells #[.int .u64 k0, .int .u64 k1, .int .u64 k2, .int .u64 k3, .int .u64 k4, .int .u64 k5] 274))
    clear hb
    go_wp2_with fail
    go_ret
    obtain rfl := HG.out.2
    exact ⟨by simp [hq], HB.out⟩
end Go.Proofs.YtoaabbnieakidaaGreatDoorR

namespace Go.Proofs.YtoaabbnieakidaaGreatDoorR
open Go.RowKit Go.BigFrame Go.Maps Go.WideMaps Lf

theorem putNode_inv {S : St} (hi : Inv S) (hh : Nat) (n : Nd) : Inv (putNode S hh n).2 := by
  unfold putNode
  split
  · exact (putWords_inv hh _ S 0 hi).1
  · exact hi
theorem withM_some {S S' : St} {n : Nd} {h l r : Nat} (hw : withM S n h l r = some S') : ∃ a b x y, heightM S l = some a ∧ heightM S r = some b ∧ sizeM S l = some x ∧ sizeM S r = some y ∧ S' = (putNode S h { n with left := l, right := r, mark := max a b + 1, size := x + y + 1 }).2 := by
  unfold withM at hw
  split at hw
  · rename_i a b x y h1 h2 h3 h4
    exact ⟨a, b, x, y, h1, h2, h3, h4, (Option.some.inj hw).symm⟩
  · cases hw
theorem withM_inv {S S' : St} {n : Nd} {h l r : Nat} (hi : Inv S) (hw : withM S n h l r = some S') : Inv S' := by
  obtain ⟨_, _, _, _, _, _, _, _, rfl⟩ := withM_some hw
  exact putNode_inv hi _ _

set_option maxRecDepth 100000 in
set_option maxHeartbeats 3200000 in
theorem avl_with {w : World} {ps : Nat} {S S' : St} {Y : Nat → Prop} (h : StOn w ps S Y) (hi : Inv S) (n : Nd) (hn : NdLt n) (hh l r : Nat) (hl : hh < 18446744073709551616) (hll : l < 18446744073709551616) (hrl : r < 18446744073709551616) (hw : withM S n hh l r = some S') :
    Calls Tryz.prog 321 #[trV n hh, PV ps, .int .u64 l, .int .u64 r] w fun e w' => e = .returned (.int .u64 hh) ∧ StOn w' ps S' Y ∧ Keep Y w w' := by
  obtain ⟨a, b, x, y, h1, h2, h3, h4, rfl⟩ := withM_some hw
  have ha : a < 4611686018427387904 := by have := num_some h1; omega
  have hb : b < 4611686018427387904 := by have := num_some h2; omega
  have hx : x < 4611686018427387904 := by have := num_some h3; omega
  have hy : y < 4611686018427387904 := by have := num_some h4; omega
  obtain ⟨m, hm⟩ : ∃ m, max a b = m := ⟨_, rfl⟩
  have hml : m < 4611686018427387904 := by omega
  have hmi : max (a : Int) (b : Int) = (m : Int) := by omega
  rw [hm]
  obtain ⟨k0, k1, k2, k3, k4, k5⟩ := n
  obtain ⟨n0, n1, n2, n3, n4, n5⟩ := hn
  simp only at n0 n1 n2 n3 n4 n5
  simp only [trV]
  have hpu := fun W Z (hW : StOn W ps S Z) => node_put hW hi hh hl ⟨k0, k1, l, r, m + 1, x + y + 1⟩ ⟨n0, n1, hll, hrl, by simp only; omega, by simp only; omega⟩
  have hnd : ndV ⟨k0, k1, l, r, m + 1, x + y + 1⟩ = .agg #[.int .u64 k0, .int .u64 k1, .int .u64 l, .int .u64 r, .int .u64 ((m : Int) + 1), .int .u64 ((x : Int) + y + 1)] := by simp [ndV]
  rw [hnd] at hpu
  have q0 := heap_alloc_new w (.cells #[.int .u64 k0, .int .u64 k1, .int .u64 l, .int .u64 r, .int .u64 k4, .int .u64 k5, .int .u64 hh] 394)
  have qb : Below w.heap.size w (w.alloc (.cells #[.int .u64 k0, .int .u64 k1, .int .u64 l, .int .u64 r, .int .u64 k4, .int .u64 k5, .int .u64 hh] 394)) := (Below.refl _ w).alloc (Nat.le_refl _) _
  have hH1 := fun W (hW : Below w.heap.size w W) => avl_height (h.below hW) hi l hll h1
  have hH2 := fun W (hW : Below w.heap.size w W) => avl_height (h.below hW) hi r hrl h2
  have hZ1 := fun W (hW : Below w.heap.size w W) => walk_size (h.below hW) hi l hll h3
  have hZ2 := fun W (hW : Below w.heap.size w W) => walk_size (h.below hW) hi r hrl h4
  have HG := Lib.hid (And.intro hH1 (And.intro hH2 (And.intro hZ1 (And.intro hZ2 (And.intro hpu (And.intro h (And.intro q0 qb)))))))
  clear hH1 hH2 hZ1 hZ2 hpu h q0 qb h1 h2 h3 h4 hw hm hi hnd
  go_enter Tryz.func321, Tryz.ntmps321
  go_wp2_with fail
  refine (HG.out.1 _ HG.out.2.2.2.2.2.2.2).mono ?_
  rintro e w1 ⟨rfl, hb1⟩
  have r1 := (hb1.block w.heap.size (by simp)).trans HG.out.2.2.2.2.2.2.1
  have H1 := Lib.hid (And.intro (HG.out.2.2.2.2.2.2.2.trans (hb1.mono (by simp))) r1)
  clear hb1 r1
  go_wp2_with fail
  refine (HG.out.2.1 _ H1.out.1).mono ?_
  rintro e w2 ⟨rfl, hb2⟩
  have r2 := (hb2.block w.heap.size (Array.getElem?_eq_some_iff.1 H1.out.2).1).trans H1.out.2
  have c0 : (w2).cell? ⟨w.heap.size, 0, none⟩ = some (.int .u64 k0) := by rw [cell_of_block r2]; rfl
  have c1 : (w2).cell? ⟨w.heap.size, 1, none⟩ = some (.int .u64 k1) := by rw [cell_of_block r2]; rfl
  have c2 : (w2).cell? ⟨w.heap.size, 2, none⟩ = some (.int .u64 l) := by rw [cell_of_block r2]; rfl
  have c3 : (w2).cell? ⟨w.heap.size, 3, none⟩ = some (.int .u64 r) := by rw [cell_of_block r2]; rfl
  have c4 : (w2).cell? ⟨w.heap.size, 4, none⟩ = some (.int .u64 k4) := by rw [cell_of_block r2]; rfl
  have c5 : (w2).cell? ⟨w.heap.size, 5, none⟩ = some (.int .u64 k5) := by rw [cell_of_block r2]; rfl
  have c6 : (w2).cell? ⟨w.heap.size, 6, none⟩ = some (.int .u64 hh) := by rw [cell_of_block r2]; rfl
  have f0 : (w2).frozen? ⟨w.heap.size, 0, none⟩ = false := frozen_of_block r2
  have f1 : (w2).frozen? ⟨w.heap.size, 1, none⟩ = false := frozen_of_block r2
  have f2 : (w2).frozen? ⟨w.heap.size, 2, none⟩ = false := frozen_of_block r2
  have f3 : (w2).frozen? ⟨w.heap.size, 3, none⟩ = false := frozen_of_block r2
  have f4 : (w2).frozen? ⟨w.heap.size, 4, none⟩ = false := frozen_of_block r2
  have f5 : (w2).frozen? ⟨w.heap.size, 5, none⟩ = false := frozen_of_block r2
  have f6 : (w2).frozen? ⟨w.heap.size, 6, none⟩ = false := frozen_of_block r2
  have H2 := Lib.hid (And.intro (H1.out.1.trans (hb2.mono H1.out.1.size)) r2)
  clear hb2 r2
  go_wp2_with fail
  have r3 : (w2.setCell ⟨w.heap.size, 4, none⟩ (.int .u64 ((m : Int) + 1))).heap[w.heap.size]? = some (.cells #[.int .u64 k0, .int .u64 k1, .int .u64 l, .int .u64 r, .int .u64 ((m : Int) + 1), .int .u64 k5, .int .u64 hh] 394 (0, 0)) := by rw [heap_setCell H2.out.2]; rfl
  have B3 := H2.out.1.setCell (p := ⟨w.heap.size, 4, none⟩) (Nat.le_refl w.heap.size) (.int .u64 ((m : Int) + 1))
  generalize w2.setCell ⟨w.heap.size, 4, none⟩ (.int .u64 ((m : Int) + 1)) = w3 at *
  refine (HG.out.2.2.1 _ B3).mono ?_
  rintro e w4 ⟨rfl, hb4⟩
  have H4 := Lib.hid (And.intro (B3.trans (hb4.mono B3.size)) ((hb4.block w.heap.size (Array.getElem?_eq_some_iff.1 r3).1).trans r3))
  clear hb4 r3 B3 c0 c1 c2 c3 c4 c5 c6 f0 f1 f2 f3 f4 f5 f6
  go_wp2_with fail
  refine (HG.out.2.2.2.1 _ H4.out.1).mono ?_
  rintro e w5 ⟨rfl, hb5⟩
  have r5 := (hb5.block w.heap.size (Array.getElem?_eq_some_iff.1 H4.out.2).1).trans H4.out.2
  have c0 : (w5).cell? ⟨w.heap.size, 0, none⟩ = some (.int .u64 k0) := by rw [cell_of_block r5]; rfl
  have c1 : (w5).cell? ⟨w.heap.size, 1, none⟩ = some (.int .u64 k1) := by rw [cell_of_block r5]; rfl
  have c2 : (w5).cell? ⟨w.heap.size, 2, none⟩ = some (.int .u64 l) := by rw [cell_of_block r5]; rfl
  have c3 : (w5).cell? ⟨w.heap.size, 3, none⟩ = some (.int .u64 r) := by rw [cell_of_block r5]; rfl
  have c4 : (w5).cell? ⟨w.heap.size, 4, none⟩ = some (.int .u64 ((m : Int) + 1)) := by rw [cell_of_block r5]; rfl
  have c5 : (w5).cell? ⟨w.heap.size, 5, none⟩ = some (.int .u64 k5) := by rw [cell_of_block r5]; rfl
  have c6 : (w5).cell? ⟨w.heap.size, 6, none⟩ = some (.int .u64 hh) := by rw [cell_of_block r5]; rfl
  have f0 : (w5).frozen? ⟨w.heap.size, 0, none⟩ = false := frozen_of_block r5
  have f1 : (w5).frozen? ⟨w.heap.size, 1, none⟩ = false := frozen_of_block r5
  have f2 : (w5).frozen? ⟨w.heap.size, 2, none⟩ = false := frozen_of_block r5
  have f3 : (w5).frozen? ⟨w.heap.size, 3, none⟩ = false := frozen_of_block r5
  have f4 : (w5).frozen? ⟨w.heap.size, 4, none⟩ = false := frozen_of_block r5
  have f5 : (w5).frozen? ⟨w.heap.size, 5, none⟩ = false := frozen_of_block r5
  have f6 : (w5).frozen? ⟨w.heap.size, 6, none⟩ = false := frozen_of_block r5
  have H5 := Lib.hid (And.intro (H4.out.1.trans (hb5.mono H4.out.1.size)) r5)
  clear hb5 r5
  go_wp2_with fail
  have r6 : (w5.setCell ⟨w.heap.size, 5, none⟩ (.int .u64 ((x : Int) + y + 1))).heap[w.heap.size]? = some (.cells #[.int .u64 k0, .int .u64 k1, .int .u64 l, .int .u64 r, .int .u64 ((m : Int) + 1), .int .u64 ((x : Int) + y + 1), .int .u64 hh] 394 (0, 0)) := by rw [heap_setCell H5.out.2]; rfl
  have B6 := H5.out.1.setCell (p := ⟨w.heap.size, 5, none⟩) (Nat.le_refl w.heap.size) (.int .u64 ((x : Int) + y + 1))
  have hlt6 : w.heap.size < (w5.setCell ⟨w.heap.size, 5, none⟩ (.int .u64 ((x : Int) + y + 1))).heap.size := (Array.getElem?_eq_some_iff.1 r6).1
  refine (HG.out.2.2.2.2.1 _ _ (HG.out.2.2.2.2.2.1.wide B6)).mono ?_
  rintro e w7 ⟨rfl, h7, k7⟩
  have r7 := (k7.block w.heap.size (Or.inr ⟨Nat.le_refl _, hlt6⟩)).trans r6
  have c6' : w7.cell? ⟨w.heap.size, 6, none⟩ = some (.int .u64 hh) := by rw [cell_of_block r7]; rfl
  have H7 := Lib.hid (And.intro (h7.mono (Z := Y) fun k hk => Or.inl hk) ((Keep.of_below B6 HG.out.2.2.2.2.2.1.yl).trans (k7.mono fun k hk => Or.inl hk)))
  clear h7 k7 r7 r6 B6 hlt6 c0 c1 c2 c3 c4 c5 c6 f0 f1 f2 f3 f4 f5 f6
  go_wp2_with fail
  go_ret
  exact ⟨rfl, H7.out⟩
end Go.Proofs.YtoaabbnieakidaaGreatDoorR

namespace Go.Proofs.YtoaabbnieakidaaGreatDoorR.Qu
open Go Go.RowKit
section
variable {P : Program} {l : List Oper} {md : Region.Mode} {S : World → Prop} {Q : Exit → Act → World → Prop}

def wpHeld (P : Program) (l : List Oper) (S : World → Prop) (Q : Act → Prop) : List Nat → Act → Prop
  | [], a => Q a
  | i :: is, a => ∃ o, l[i]? = some o ∧ ∃ v, YieldsIf P l.toArray S o v a ∧ wpHeld P l S Q is (a.put o.dst v)
def wpSeqH (P : Program) (l : List Oper) (Q : Exit → Act → World → Prop) (S : World → Prop) : List Nat → Act → World → Prop
  | [], a, w => Q .normal a w
  | i :: is, a, w => ∃ o, l[i]? = some o ∧ Region.wanted o (yielded l.toArray a.tmps) = true ∧ o.wp P a w (fun a' w' => S w' ∧ wpSeqH P l Q S is a' w') Q

def seqB (md : Region.Mode) (ops : Array Oper) : List Nat → Array Bool → Bool
  | [], listed => (Region.ready md ops listed).isEmpty
  | i :: is, listed => decide (Region.ready md ops listed = [i]) && seqB md ops is (listed.setIfInBounds i true)
def headB (md : Region.Mode) (ops : Array Oper) (js : List Nat) : List Nat → Array Bool → Bool
  | [], listed => seqB md ops js listed
  | i :: is, listed => (Region.ready md ops listed).contains i && Region.free md ops listed i && headB md ops js is (listed.setIfInBounds i true)

theorem wpAnyH_of_seq : ∀ (js : List Nat) (listed : Array Bool) (a : Act) (w : World),
    seqB md l.toArray js listed = true → S w → wpSeqH P l Q S js a w → wpAnyH P md l.toArray Q S js.length listed a w
  | [], _, _, _, hB, _, h => ⟨by simpa [seqB] using hB, h⟩
  | j :: js, listed, a, w, hB, hS, h => by
    simp only [seqB, Bool.and_eq_true, decide_eq_true_eq] at hB
    refine ⟨fun h1 => (by rw [hB.1] at h1; cases h1), fun i hi => ?_⟩
    rw [hB.1] at hi
    have hik : i = j := by simpa using hi
    subst hik
    have hrec := fun a' w' (hs : S w') (hq : wpSeqH P l Q S js a' w') => wpAnyH_of_seq js (listed.setIfInBounds i true) a' w' hB.2 hs hq
    obtain ⟨o, h0, hw, hh⟩ := h
    have h0' : l.toArray[i]? = some o := by simpa using h0
    unfold wpOp
    simp only [h0', hw, if_true]
    exact .inl (Oper.wp_mono (fun a' w' h' => ⟨h'.1, hrec a' w' h'.1 h'.2⟩) hh)

theorem wpAnyH_lex {js : List Nat} {w : World} {Lq : Act → Prop} (hsel : Region.noSelect l.toArray = true) (hS : S w) (hQ : ∀ d v c a w, Q (.panic c) (Act.put a d v) w → Q (.panic c) a w)
    (hL : ∀ listed a, seqB md l.toArray js listed = true → Lq a → wpAnyH P md l.toArray Q S js.length listed a w) :
    ∀ (is : List Nat) (listed : Array Bool) (a : Act),
    headB md l.toArray js is listed = true → wpHeld P l S Lq is a → wpAnyH P md l.toArray Q S (is.length + js.length) listed a w
  | [], listed, a, hB, h => by simpa using hL listed a (by simpa [headB] using hB) h
  | i :: is, listed, a, hB, h => by
    simp only [headB, Bool.and_eq_true] at hB
    obtain ⟨⟨hr, hf⟩, hB'⟩ := hB
    obtain ⟨o, h0, v, hy, hK⟩ := h
    have h0' : l.toArray[i]? = some o := by simpa using h0
    rw [List.length_cons, show is.length + 1 + js.length = (is.length + js.length) + 1 by omega]
    exact wpAnyH_take h0' hsel hf hr (fun c a w => hQ _ _ c a w) hy hS (wpAnyH_lex hsel hS hQ hL is _ _ hB' hK)
end

def lexHeldB (md : Region.Mode) (ops : Array Oper) (is js : List Nat) : Bool :=
  Region.noSelect ops && decide (is.length + js.length = ops.size) && headB md ops js is (Array.replicate ops.size false)
end Qu
open Qu

/-- the class of the worlds that meet I -/
abbrev InK (I : World → Prop) : World → Prop := fun w' => ∃ x : Keeps I, w' = x.to

theorem wp_region_held_tail {P : Program} {id : Nat} {Q : Exit → Act → World → Prop} {a : Act} {w : World} {l : List Oper} (I : World → Prop) (is js : List Nat) (hm : P.follows .mixedOrders = true) (hB : lexHeldB .any l.toArray is js = true)
    (hI : I w.drew)
    (h : wpHeld P l (InK I) (fun a' => wpSeqH P l (NoPanic Q) (InK I) js a' w.drew) is a) : (Code.region id l.toArray true).wp P Q a w := by
  simp only [lexHeldB, Bool.and_eq_true, decide_eq_true_eq] at hB
  obtain ⟨⟨hsel, hn⟩, hlex⟩ := hB
  have hS : InK I w.drew := ⟨⟨_, hI⟩, rfl⟩
  refine wp_region_noPanic (wp_region_held_drew (S := InK I) hm hS (fun _ => ?_))
  have := wpAnyH_lex (md := .any) (js := js) (Q := NoPanic Q) hsel hS (fun _ _ _ _ _ h => (h : False).elim) (fun listed a' hq hl =>
    wpAnyH_of_seq (md := .any) (Q := NoPanic Q) (S := InK I) js listed a' w.drew hq hS hl) is _ a hlex h
  rw [hn] at this
  exact this

theorem wpHeld_cons {P : Program} {l : List Oper} {S : World → Prop} {Q : Act → Prop} {i : Nat} {is : List Nat} {a : Act} (o : Oper) (ho : l[i]? = some o) (v : Value) (hw : Region.wanted o (yielded l.toArray a.tmps) = true) (hr : ∀ w, S w → (execOp a.eval o).run P w = .ok (.value v) w)
    (h : wpHeld P l S Q is (a.put o.dst v)) : wpHeld P l S Q (i :: is) a := ⟨o, ho, v, Or.inl ⟨hw, hr⟩, h⟩
theorem wpHeld_nil {P : Program} {l : List Oper} {S : World → Prop} {Q : Act → Prop} {a : Act} (h : Q a) : wpHeld P l S Q [] a := h
theorem wpSeqH_cons {P : Program} {l : List Oper} {Q : Exit → Act → World → Prop} {I : World → Prop} {i : Nat} {is : List Nat} {a : Act} {w : World} (o : Oper) (ho : l[i]? = some o) (hw : Region.wanted o (yielded l.toArray a.tmps) = true)
    (h : ∀ K' : Act → World → Prop, Shut (∀ a w, I w → wpSeqH P l Q (InK I) is a w → K' a w) → Oper.wp P o a w K' Q) : wpSeqH P l Q (InK I) (i :: is) a w :=
  ⟨o, ho, hw, h _ (fun _ _ hI hs => ⟨⟨⟨_, hI⟩, rfl⟩, hs⟩)⟩
theorem wpSeqH_nil {P : Program} {l : List Oper} {Q : Exit → Act → World → Prop} {S : World → Prop} {a : Act} {w : World} (h : Q .normal a w) : wpSeqH P l (NoPanic Q) S [] a w := h
end Go.Proofs.YtoaabbnieakidaaGreatDoorR
