/- Keys found in trees: Get; At of a place that is none: the walks. -/
import Derived.Test.YtoaabbnieakidaaGreatDoorRGbe
import Derived.Test.YtoaabbnieakidaaGreatDoorRGaz
namespace Go.Proofs.YtoaabbnieakidaaGreatDoorR
open Go.RowKit Go.BigFrame Go.Maps Go.WideMaps Lf
theorem meth_find (f : Nat) (v : Value) (w : World) : (method (f + 1) 247 v "loft/backend.find").run Tryz.prog w = .ok (357, v) w := by kernel_rfl

set_option maxRecDepth 100000 in
set_option maxHeartbeats 3200000 in
theorem tree_get_nil {w : World} {px ps kind root : Nat} (hT : TreeOn w px ps kind root) (k : List UInt8) (k0 k1 : Nat) (hs : ∀ W, Below w.heap.size w W → Calls Tryz.prog 357 #[binV ps kind, .int .u64 root, SV k] W fun e w' => e = .returned (.tuple #[.agg #[.int .u64 k0, .int .u64 k1], .bool false]) ∧ Below W.heap.size W w') :
    Calls Tryz.prog 52 #[PV px, SV k] w fun e w' => e = .returned (.tuple #[.string ⟨#[]⟩, .bool false]) ∧ Below w.heap.size w w' := by
  have B0 := Below.refl w.heap.size w
  have hn := tree_none (hT.below B0)
  obtain ⟨I, hIi, hIo⟩ := tree_class px ps kind root
  have hy0 := fun x : Keeps I => hIi _ x.ok
  simp only [TreeOn] at hy0
  have m0 : ∀ x : Keeps I, x.to.cell? ⟨px, 0, none⟩ = some (PV ps) := fun x => by rw [cell_of_block (hy0 x)]; rfl
  have m1 : ∀ x : Keeps I, x.to.cell? ⟨px, 1, none⟩ = some (.int .i64 kind) := fun x => by rw [cell_of_block (hy0 x)]; rfl
  have m2 : ∀ x : Keeps I, x.to.cell? ⟨px, 2, none⟩ = some (.int .i64 0) := fun x => by rw [cell_of_block (hy0 x)]; rfl
  have m3 : ∀ x : Keeps I, x.to.cell? ⟨px, 3, none⟩ = some (.iface 247 (binV ps kind)) := fun x => by rw [cell_of_block (hy0 x)]; rfl
  have m4 : ∀ x : Keeps I, x.to.cell? ⟨px, 4, none⟩ = some (.int .u64 root) := fun x => by rw [cell_of_block (hy0 x)]; rfl
  have hI0 : I w.drew := hIo _ (hT.below B0.drew)
  have hme := meth_find
  have hIo' := True.intro
  have HI := Lib.hid hIo
  have HG := Lib.hid (And.intro hn (And.intro hs (And.intro hT B0)))
  skip
  clear hn hs hT hIi hIo hy0 B0 
  go_enter Tryz.func52, Tryz.ntmps52
  go_wp2_with fail
  refine HG.out.1.mono ?_
  rintro e w1 ⟨rfl, rfl⟩
  go_wp2_with fail
  refine wp_region_plan I (.take 0 (.take 1 (.take 2 (.take 3 (.take 4 (.take 5 (.take 6 (.take 7 (.take 8 (.take 9 (.take 10 (.two 11 15 (.take 12 (.take 13 (.take 14 (.go 15 (.go 16 (.go 17 .nil)))))) (.go 11 (.take 12 (.take 13 (.take 14 (.go 16 (.go 17 .nil)))))))))))))))))) (by kernel_rfl) (by kernel_rfl) hI0 ?_
  refine' plan_take _ (by rfl) _ (by rfl) ?_ ?_
  rotate_left
  · rintro _ ⟨x, rfl⟩
    have hxm0 := m0 x
    have hxm1 := m1 x
    have hxm2 := m2 x
    have hxm3 := m3 x
    have hxm4 := m4 x
    go_simp
    try with_reducible rfl
  try simp only [Act.put, List.setIfInBounds_toArray, List.set_cons_zero, List.set_cons_succ]
  refine' plan_take _ (by rfl) _ (by rfl) ?_ ?_
  rotate_left
  · rintro _ ⟨x, rfl⟩
    have hxm0 := m0 x
    have hxm1 := m1 x
    have hxm2 := m2 x
    have hxm3 := m3 x
    have hxm4 := m4 x
    go_simp
    try with_reducible rfl
  try simp only [Act.put, List.setIfInBounds_toArray, List.set_cons_zero, List.set_cons_succ]
  refine' plan_take _ (by rfl) _ (by rfl) ?_ ?_
  rotate_left
  · rintro _ ⟨x, rfl⟩
    have hxm0 := m0 x
    have hxm1 := m1 x
    have hxm2 := m2 x
    have hxm3 := m3 x
    have hxm4 := m4 x
    go_simp
    try with_reducible rfl
  try simp only [Act.put, List.setIfInBounds_toArray, List.set_cons_zero, List.set_cons_succ]
  refine' plan_take _ (by rfl) _ (by rfl) ?_ ?_
  rotate_left
  · rintro _ ⟨x, rfl⟩
    have hxm0 := m0 x
    have hxm1 := m1 x
    have hxm2 := m2 x
    have hxm3 := m3 x
    have hxm4 := m4 x
    go_simp
    try with_reducible rfl
  try simp only [Act.put, List.setIfInBounds_toArray, List.set_cons_zero, List.set_cons_succ]
  refine' plan_take _ (by rfl) _ (by rfl) ?_ ?_
  rotate_left
  · rintro _ ⟨x, rfl⟩
    have hxm0 := m0 x
    have hxm1 := m1 x
    have hxm2 := m2 x
    have hxm3 := m3 x
    have hxm4 := m4 x
    go_simp
    try with_reducible rfl
  try simp only [Act.put, List.setIfInBounds_toArray, List.set_cons_zero, List.set_cons_succ]
  refine' plan_take _ (by rfl) _ (by rfl) ?_ ?_
  rotate_left
  · rintro _ ⟨x, rfl⟩
    have hxm0 := m0 x
    have hxm1 := m1 x
    have hxm2 := m2 x
    have hxm3 := m3 x
    have hxm4 := m4 x
    go_simp
    try with_reducible rfl
  try simp only [Act.put, List.setIfInBounds_toArray, List.set_cons_zero, List.set_cons_succ]
  refine' plan_take _ (by rfl) _ (by rfl) ?_ ?_
  rotate_left
  · rintro _ ⟨x, rfl⟩
    have hxm0 := m0 x
    have hxm1 := m1 x
    have hxm2 := m2 x
    have hxm3 := m3 x
    have hxm4 := m4 x
    go_simp
    try with_reducible rfl
  try simp only [Act.put, List.setIfInBounds_toArray, List.set_cons_zero, List.set_cons_succ]
  refine' plan_take _ (by rfl) _ (by rfl) ?_ ?_
  rotate_left
  · rintro _ ⟨x, rfl⟩
    have hxm0 := m0 x
    have hxm1 := m1 x
    have hxm2 := m2 x
    have hxm3 := m3 x
    have hxm4 := m4 x
    go_simp
    try with_reducible rfl
  try simp only [Act.put, List.setIfInBounds_toArray, List.set_cons_zero, List.set_cons_succ]
  refine' plan_take _ (by rfl) _ (by rfl) ?_ ?_
  rotate_left
  · rintro _ ⟨x, rfl⟩
    have hxm0 := m0 x
    have hxm1 := m1 x
    have hxm2 := m2 x
    have hxm3 := m3 x
    have hxm4 := m4 x
    go_simp
    try with_reducible rfl
  try simp only [Act.put, List.setIfInBounds_toArray, List.set_cons_zero, List.set_cons_succ]
  refine' plan_take _ (by rfl) _ (by rfl) ?_ ?_
  rotate_left
  · rintro _ ⟨x, rfl⟩
    have hxm0 := m0 x
    have hxm1 := m1 x
    have hxm2 := m2 x
    have hxm3 := m3 x
    have hxm4 := m4 x
    go_simp
    try with_reducible rfl
  try simp only [Act.put, List.setIfInBounds_toArray, List.set_cons_zero, List.set_cons_succ]
  refine' plan_take _ (by rfl) _ (by rfl) ?_ ?_
  rotate_left
  · rintro _ ⟨x, rfl⟩
    have hxm0 := m0 x
    have hxm1 := m1 x
    have hxm2 := m2 x
    have hxm3 := m3 x
    have hxm4 := m4 x
    go_simp
    try with_reducible rfl
  try simp only [Act.put, List.setIfInBounds_toArray, List.set_cons_zero, List.set_cons_succ]
  refine plan_two ?h1 ?h2
  case' h1 =>
    refine plan_do _ (by rfl) (by rfl) (fun K hK => ?_)
    go_simp
    refine (HG.out.2.1 _ HG.out.2.2.2.drew).mono ?_
    rintro e w2 ⟨rfl, hb2⟩
    have T2 := TreeOn.below (w := w.drew) (HG.out.2.2.1.below HG.out.2.2.2.drew) hb2
    have B2' := HG.out.2.2.2.drew.trans (hb2.mono HG.out.2.2.2.drew.size)
    have B2 := Lib.hid (And.intro T2 B2')
    clear T2 hb2 B2' 
    try go_simp
    refine hK.out _ _ (HI.out _ B2.out.1) ?_
    clear hK K
    try simp only [Act.put, List.setIfInBounds_toArray, List.set_cons_zero, List.set_cons_succ]
    refine' plan_take _ (by rfl) _ (by rfl) ?_ ?_
    rotate_left
    · rintro _ ⟨x, rfl⟩
      go_simp
      try with_reducible rfl
    try simp only [Act.put, List.setIfInBounds_toArray, List.set_cons_zero, List.set_cons_succ]
    refine' plan_take _ (by rfl) _ (by rfl) ?_ ?_
    rotate_left
    · rintro _ ⟨x, rfl⟩
      go_simp
      try with_reducible rfl
    try simp only [Act.put, List.setIfInBounds_toArray, List.set_cons_zero, List.set_cons_succ]
    refine' plan_take _ (by rfl) _ (by rfl) ?_ ?_
    rotate_left
    · rintro _ ⟨x, rfl⟩
      go_simp
      try with_reducible rfl
    try simp only [Act.put, List.setIfInBounds_toArray, List.set_cons_zero, List.set_cons_succ]
    refine plan_do _ (by rfl) (by rfl) (fun K hK => ?_)
    go_simp
    have A2 := (Below.refl w2.heap.size w2).alloc (Nat.le_refl _) (.cells #[.int .u64 0, .int .u64 0] 126)
    have TA := B2.out.1.below A2
    have BA := B2.out.2.trans (A2.mono B2.out.2.size)
    have qA := heap_alloc_new w2 (.cells #[.int .u64 0, .int .u64 0] 126)
    have ltA : w.heap.size ≤ w2.heap.size := B2.out.2.size
    clear A2 B2
    generalize w2.alloc (.cells #[.int .u64 0, .int .u64 0] 126) = W at *
    generalize w2.heap.size = b6 at *
    try go_simp
    refine hK.out _ _ (HI.out _ TA) ?_
    clear hK K
    try simp only [Act.put, List.setIfInBounds_toArray, List.set_cons_zero, List.set_cons_succ]
    have c0 : (W).cell? ⟨b6, 0, none⟩ = some (.int .u64 0) := by rw [cell_of_block qA]; rfl
    have c1 : (W).cell? ⟨b6, 1, none⟩ = some (.int .u64 0) := by rw [cell_of_block qA]; rfl
    have f0 : (W).frozen? ⟨b6, 0, none⟩ = false := frozen_of_block qA
    have f1 : (W).frozen? ⟨b6, 1, none⟩ = false := frozen_of_block qA
    have HA := Lib.hid (And.intro TA (And.intro BA (And.intro qA ltA)))
    clear TA BA qA ltA
    refine plan_do _ (by rfl) (by rfl) (fun K hK => ?_)
    go_simp
    have qB := st2_heap HA.out.2.2.1 (.int .u64 k0) (.int .u64 k1)
    have BB := st2_below HA.out.2.1 (HA.out.2.2.2) (.int .u64 k0) (.int .u64 k1)
    have TB : TreeOn ((W.setCell ⟨b6, 0, none⟩ (.int .u64 k0)).setCell ⟨b6, 1, none⟩ (.int .u64 k1)) px ps kind root := HG.out.2.2.1.below BB
    have ltB := HA.out.2.2.2
    clear c0 c1 f0 f1 HA
    generalize ((W.setCell ⟨b6, 0, none⟩ (.int .u64 k0)).setCell ⟨b6, 1, none⟩ (.int .u64 k1)) = W7 at *
    try go_simp
    refine hK.out _ _ (HI.out _ TB) ?_
    clear hK K
    try simp only [Act.put, List.setIfInBounds_toArray, List.set_cons_zero, List.set_cons_succ]
    refine plan_do _ (by rfl) (by rfl) (fun K hK => ?_)
    go_simp
    try go_simp
    refine hK.out _ _ (HI.out _ TB) ?_
    clear hK K
    try simp only [Act.put, List.setIfInBounds_toArray, List.set_cons_zero, List.set_cons_succ]
    refine plan_nil ?_
    have H7 := Lib.hid (And.intro TB (And.intro BB (And.intro qB ltB)))
    clear TB BB qB ltB
    clear w2
  case' h2 =>
    refine plan_do _ (by rfl) (by rfl) (fun K hK => ?_)
    go_simp
    have A2 := (Below.refl w.heap.size w).alloc (Nat.le_refl _) (.cells #[.int .u64 0, .int .u64 0] 126)
    have BA := (HG.out.2.2.2.trans (A2.mono HG.out.2.2.2.size)).drew
    have qA : (w.alloc (.cells #[.int .u64 0, .int .u64 0] 126)).drew.heap[w.heap.size]? = _ := heap_alloc_new w (.cells #[.int .u64 0, .int .u64 0] 126)
    have TA := HG.out.2.2.1.below BA
    clear A2
    generalize (w.alloc (.cells #[.int .u64 0, .int .u64 0] 126)).drew = w1 at *
    try go_simp
    refine hK.out _ _ (HI.out _ TA) ?_
    clear hK K
    try simp only [Act.put, List.setIfInBounds_toArray, List.set_cons_zero, List.set_cons_succ]
    have HA0 := Lib.hid (And.intro TA (And.intro BA qA))
    clear TA BA qA
    refine plan_do _ (by rfl) (by rfl) (fun K hK => ?_)
    go_simp
    refine (HG.out.2.1 _ HA0.out.2.1).mono ?_
    rintro e W ⟨rfl, hb2⟩
    have TA := HA0.out.1.below hb2
    have BA := HA0.out.2.1.trans (hb2.mono HA0.out.2.1.size)
    have qA := (hb2.block w.heap.size (Array.getElem?_eq_some_iff.1 HA0.out.2.2).1).trans HA0.out.2.2
    obtain ⟨b6, hb6⟩ : ∃ b6, w.heap.size = b6 := ⟨_, rfl⟩
    have ltA : w.heap.size ≤ b6 := by omega
    rw [hb6] at qA
    simp only [hb6]
    clear hb2 HA0
    try go_simp
    refine hK.out _ _ (HI.out _ TA) ?_
    clear hK K
    try simp only [Act.put, List.setIfInBounds_toArray, List.set_cons_zero, List.set_cons_succ]
    refine' plan_take _ (by rfl) _ (by rfl) ?_ ?_
    rotate_left
    · rintro _ ⟨x, rfl⟩
      go_simp
      try with_reducible rfl
    try simp only [Act.put, List.setIfInBounds_toArray, List.set_cons_zero, List.set_cons_succ]
    refine' plan_take _ (by rfl) _ (by rfl) ?_ ?_
    rotate_left
    · rintro _ ⟨x, rfl⟩
      go_simp
      try with_reducible rfl
    try simp only [Act.put, List.setIfInBounds_toArray, List.set_cons_zero, List.set_cons_succ]
    refine' plan_take _ (by rfl) _ (by rfl) ?_ ?_
    rotate_left
    · rintro _ ⟨x, rfl⟩
      go_simp
      try with_reducible rfl
    try simp only [Act.put, List.setIfInBounds_toArray, List.set_cons_zero, List.set_cons_succ]
    have c0 : (W).cell? ⟨b6, 0, none⟩ = some (.int .u64 0) := by rw [cell_of_block qA]; rfl
    have c1 : (W).cell? ⟨b6, 1, none⟩ = some (.int .u64 0) := by rw [cell_of_block qA]; rfl
    have f0 : (W).frozen? ⟨b6, 0, none⟩ = false := frozen_of_block qA
    have f1 : (W).frozen? ⟨b6, 1, none⟩ = false := frozen_of_block qA
    have HA := Lib.hid (And.intro TA (And.intro BA (And.intro qA ltA)))
    clear TA BA qA ltA
    refine plan_do _ (by rfl) (by rfl) (fun K hK => ?_)
    go_simp
    have qB := st2_heap HA.out.2.2.1 (.int .u64 k0) (.int .u64 k1)
    have BB := st2_below HA.out.2.1 (HA.out.2.2.2) (.int .u64 k0) (.int .u64 k1)
    have TB : TreeOn ((W.setCell ⟨b6, 0, none⟩ (.int .u64 k0)).setCell ⟨b6, 1, none⟩ (.int .u64 k1)) px ps kind root := HG.out.2.2.1.below BB
    have ltB := HA.out.2.2.2
    clear c0 c1 f0 f1 HA
    generalize ((W.setCell ⟨b6, 0, none⟩ (.int .u64 k0)).setCell ⟨b6, 1, none⟩ (.int .u64 k1)) = W7 at *
    try go_simp
    refine hK.out _ _ (HI.out _ TB) ?_
    clear hK K
    try simp only [Act.put, List.setIfInBounds_toArray, List.set_cons_zero, List.set_cons_succ]
    refine plan_do _ (by rfl) (by rfl) (fun K hK => ?_)
    go_simp
    try go_simp
    refine hK.out _ _ (HI.out _ TB) ?_
    clear hK K
    try simp only [Act.put, List.setIfInBounds_toArray, List.set_cons_zero, List.set_cons_succ]
    refine plan_nil ?_
    have H7 := Lib.hid (And.intro TB (And.intro BB (And.intro qB ltB)))
    clear TB BB qB ltB
    clear w1
  all_goals
    go_wp2_with fail
    go_ret2
    exact ⟨rfl, H7.out.2.1⟩

set_option maxRecDepth 100000 in
set_option maxHeartbeats 3200000 in
theorem tree_get_yes {w : World} {px ps kind root : Nat} (hT : TreeOn w px ps kind root) (k : List UInt8) (k0 k1 : Nat) (t : List UInt8) (e1 : Nat) (hg : ∀ W, Below w.heap.size w W → Calls Tryz.prog 83 #[PV ps, .int .u64 k1] W fun e w' => e = .returned (.tuple #[SV t, .int .i64 e1]) ∧ Below W.heap.size W w') (hs : ∀ W, Below w.heap.size w W → Calls Tryz.prog 357 #[binV ps kind, .int .u64 root, SV k] W fun e w' => e = .returned (.tuple #[.agg #[.int .u64 k0, .int .u64 k1], .bool true]) ∧ Below W.heap.size W w') :
    Calls Tryz.prog 52 #[PV px, SV k] w fun e w' => e = .returned (.tuple #[SV t, .bool true]) ∧ Below w.heap.size w w' := by
  have B0 := Below.refl w.heap.size w
  have hn := tree_none (hT.below B0)
  obtain ⟨I, hIi, hIo⟩ := tree_class px ps kind root
  have hy0 := fun x : Keeps I => hIi _ x.ok
  simp only [TreeOn] at hy0
  have m0 : ∀ x : Keeps I, x.to.cell? ⟨px, 0, none⟩ = some (PV ps) := fun x => by rw [cell_of_block (hy0 x)]; rfl
  have m1 : ∀ x : Keeps I, x.to.cell? ⟨px, 1, none⟩ = some (.int .i64 kind) := fun x => by rw [cell_of_block (hy0 x)]; rfl
  have m2 : ∀ x : Keeps I, x.to.cell? ⟨px, 2, none⟩ = some (.int .i64 0) := fun x => by rw [cell_of_block (hy0 x)]; rfl
  have m3 : ∀ x : Keeps I, x.to.cell? ⟨px, 3, none⟩ = some (.iface 247 (binV ps kind)) := fun x => by rw [cell_of_block (hy0 x)]; rfl
  have m4 : ∀ x : Keeps I, x.to.cell? ⟨px, 4, none⟩ = some (.int .u64 root) := fun x => by rw [cell_of_block (hy0 x)]; rfl
  have hI0 : I w.drew := hIo _ (hT.below B0.drew)
  have hme := meth_find
  have hIo' := True.intro
  have HI := Lib.hid hIo
  have HG := Lib.hid (And.intro hn (And.intro hs (And.intro hT B0)))
  have HU := Lib.hid hg
  clear hn hs hT hIi hIo hy0 B0 hg
  go_enter Tryz.func52, Tryz.ntmps52
  go_wp2_with fail
  refine HG.out.1.mono ?_
  rintro e w1 ⟨rfl, rfl⟩
  go_wp2_with fail
  refine wp_region_plan I (.take 0 (.take 1 (.take 2 (.take 3 (.take 4 (.take 5 (.take 6 (.take 7 (.take 8 (.take 9 (.take 10 (.two 11 15 (.take 12 (.take 13 (.take 14 (.go 15 (.go 16 (.go 17 .nil)))))) (.go 11 (.take 12 (.take 13 (.take 14 (.go 16 (.go 17 .nil)))))))))))))))))) (by kernel_rfl) (by kernel_rfl) hI0 ?_
  refine' plan_take _ (by rfl) _ (by rfl) ?_ ?_
  rotate_left
  · rintro _ ⟨x, rfl⟩
    have hxm0 := m0 x
    have hxm1 := m1 x
    have hxm2 := m2 x
    have hxm3 := m3 x
    have hxm4 := m4 x
    go_simp
    try with_reducible rfl
  try simp only [Act.put, List.setIfInBounds_toArray, List.set_cons_zero, List.set_cons_succ]
  refine' plan_take _ (by rfl) _ (by rfl) ?_ ?_
  rotate_left
  · rintro _ ⟨x, rfl⟩
    have hxm0 := m0 x
    have hxm1 := m1 x
    have hxm2 := m2 x
    have hxm3 := m3 x
    have hxm4 := m4 x
    go_simp
    try with_reducible rfl
  try simp only [Act.put, List.setIfInBounds_toArray, List.set_cons_zero, List.set_cons_succ]
  refine' plan_take _ (by rfl) _ (by rfl) ?_ ?_
  rotate_left
  · rintro _ ⟨x, rfl⟩
    have hxm0 := m0 x
    have hxm1 := m1 x
    have hxm2 := m2 x
    have hxm3 := m3 x
    have hxm4 := m4 x
    go_simp
    try with_reducible rfl
  try simp only [Act.put, List.setIfInBounds_toArray, List.set_cons_zero, List.set_cons_succ]
  refine' plan_take _ (by rfl) _ (by rfl) ?_ ?_
  rotate_left
  · rintro _ ⟨x, rfl⟩
    have hxm0 := m0 x
    have hxm1 := m1 x
    have hxm2 := m2 x
    have hxm3 := m3 x
    have hxm4 := m4 x
    go_simp
    try with_reducible rfl
  try simp only [Act.put, List.setIfInBounds_toArray, List.set_cons_zero, List.set_cons_succ]
  refine' plan_take _ (by rfl) _ (by rfl) ?_ ?_
  rotate_left
  · rintro _ ⟨x, rfl⟩
    have hxm0 := m0 x
    have hxm1 := m1 x
    have hxm2 := m2 x
    have hxm3 := m3 x
    have hxm4 := m4 x
    go_simp
    try with_reducible rfl
  try simp only [Act.put, List.setIfInBounds_toArray, List.set_cons_zero, List.set_cons_succ]
  refine' plan_take _ (by rfl) _ (by rfl) ?_ ?_
  rotate_left
  · rintro _ ⟨x, rfl⟩
    have hxm0 := m0 x
    have hxm1 := m1 x
    have hxm2 := m2 x
    have hxm3 := m3 x
    have hxm4 := m4 x
    go_simp
    try with_reducible rfl
  try simp only [Act.put, List.setIfInBounds_toArray, List.set_cons_zero, List.set_cons_succ]
  refine' plan_take _ (by rfl) _ (by rfl) ?_ ?_
  rotate_left
  · rintro _ ⟨x, rfl⟩
    have hxm0 := m0 x
    have hxm1 := m1 x
    have hxm2 := m2 x
    have hxm3 := m3 x
    have hxm4 := m4 x
    go_simp
    try with_reducible rfl
  try simp only [Act.put, List.setIfInBounds_toArray, List.set_cons_zero, List.set_cons_succ]
  refine' plan_take _ (by rfl) _ (by rfl) ?_ ?_
  rotate_left
  · rintro _ ⟨x, rfl⟩
    have hxm0 := m0 x
    have hxm1 := m1 x
    have hxm2 := m2 x
    have hxm3 := m3 x
    have hxm4 := m4 x
    go_simp
    try with_reducible rfl
  try simp only [Act.put, List.setIfInBounds_toArray, List.set_cons_zero, List.set_cons_succ]
  refine' plan_take _ (by rfl) _ (by rfl) ?_ ?_
  rotate_left
  · rintro _ ⟨x, rfl⟩
    have hxm0 := m0 x
    have hxm1 := m1 x
    have hxm2 := m2 x
    have hxm3 := m3 x
    have hxm4 := m4 x
    go_simp
    try with_reducible rfl
  try simp only [Act.put, List.setIfInBounds_toArray, List.set_cons_zero, List.set_cons_succ]
  refine' plan_take _ (by rfl) _ (by rfl) ?_ ?_
  rotate_left
  · rintro _ ⟨x, rfl⟩
    have hxm0 := m0 x
    have hxm1 := m1 x
    have hxm2 := m2 x
    have hxm3 := m3 x
    have hxm4 := m4 x
    go_simp
    try with_reducible rfl
  try simp only [Act.put, List.setIfInBounds_toArray, List.set_cons_zero, List.set_cons_succ]
  refine' plan_take _ (by rfl) _ (by rfl) ?_ ?_
  rotate_left
  · rintro _ ⟨x, rfl⟩
    have hxm0 := m0 x
    have hxm1 := m1 x
    have hxm2 := m2 x
    have hxm3 := m3 x
    have hxm4 := m4 x
    go_simp
    try with_reducible rfl
  try simp only [Act.put, List.setIfInBounds_toArray, List.set_cons_zero, List.set_cons_succ]
  refine plan_two ?h1 ?h2
  case' h1 =>
    refine plan_do _ (by rfl) (by rfl) (fun K hK => ?_)
    go_simp
    refine (HG.out.2.1 _ HG.out.2.2.2.drew).mono ?_
    rintro e w2 ⟨rfl, hb2⟩
    have T2 := TreeOn.below (w := w.drew) (HG.out.2.2.1.below HG.out.2.2.2.drew) hb2
    have B2' := HG.out.2.2.2.drew.trans (hb2.mono HG.out.2.2.2.drew.size)
    have B2 := Lib.hid (And.intro T2 B2')
    clear T2 hb2 B2' 
    try go_simp
    refine hK.out _ _ (HI.out _ B2.out.1) ?_
    clear hK K
    try simp only [Act.put, List.setIfInBounds_toArray, List.set_cons_zero, List.set_cons_succ]
    refine' plan_take _ (by rfl) _ (by rfl) ?_ ?_
    rotate_left
    · rintro _ ⟨x, rfl⟩
      go_simp
      try with_reducible rfl
    try simp only [Act.put, List.setIfInBounds_toArray, List.set_cons_zero, List.set_cons_succ]
    refine' plan_take _ (by rfl) _ (by rfl) ?_ ?_
    rotate_left
    · rintro _ ⟨x, rfl⟩
      go_simp
      try with_reducible rfl
    try simp only [Act.put, List.setIfInBounds_toArray, List.set_cons_zero, List.set_cons_succ]
    refine' plan_take _ (by rfl) _ (by rfl) ?_ ?_
    rotate_left
    · rintro _ ⟨x, rfl⟩
      go_simp
      try with_reducible rfl
    try simp only [Act.put, List.setIfInBounds_toArray, List.set_cons_zero, List.set_cons_succ]
    refine plan_do _ (by rfl) (by rfl) (fun K hK => ?_)
    go_simp
    have A2 := (Below.refl w2.heap.size w2).alloc (Nat.le_refl _) (.cells #[.int .u64 0, .int .u64 0] 126)
    have TA := B2.out.1.below A2
    have BA := B2.out.2.trans (A2.mono B2.out.2.size)
    have qA := heap_alloc_new w2 (.cells #[.int .u64 0, .int .u64 0] 126)
    have ltA : w.heap.size ≤ w2.heap.size := B2.out.2.size
    clear A2 B2
    generalize w2.alloc (.cells #[.int .u64 0, .int .u64 0] 126) = W at *
    generalize w2.heap.size = b6 at *
    try go_simp
    refine hK.out _ _ (HI.out _ TA) ?_
    clear hK K
    try simp only [Act.put, List.setIfInBounds_toArray, List.set_cons_zero, List.set_cons_succ]
    have c0 : (W).cell? ⟨b6, 0, none⟩ = some (.int .u64 0) := by rw [cell_of_block qA]; rfl
    have c1 : (W).cell? ⟨b6, 1, none⟩ = some (.int .u64 0) := by rw [cell_of_block qA]; rfl
    have f0 : (W).frozen? ⟨b6, 0, none⟩ = false := frozen_of_block qA
    have f1 : (W).frozen? ⟨b6, 1, none⟩ = false := frozen_of_block qA
    have HA := Lib.hid (And.intro TA (And.intro BA (And.intro qA ltA)))
    clear TA BA qA ltA
    refine plan_do _ (by rfl) (by rfl) (fun K hK => ?_)
    go_simp
    have qB := st2_heap HA.out.2.2.1 (.int .u64 k0) (.int .u64 k1)
    have BB := st2_below HA.out.2.1 (HA.out.2.2.2) (.int .u64 k0) (.int .u64 k1)
    have TB : TreeOn ((W.setCell ⟨b6, 0, none⟩ (.int .u64 k0)).setCell ⟨b6, 1, none⟩ (.int .u64 k1)) px ps kind root := HG.out.2.2.1.below BB
    have ltB := HA.out.2.2.2
    clear c0 c1 f0 f1 HA
    generalize ((W.setCell ⟨b6, 0, none⟩ (.int .u64 k0)).setCell ⟨b6, 1, none⟩ (.int .u64 k1)) = W7 at *
    try go_simp
    refine hK.out _ _ (HI.out _ TB) ?_
    clear hK K
    try simp only [Act.put, List.setIfInBounds_toArray, List.set_cons_zero, List.set_cons_succ]
    refine plan_do _ (by rfl) (by rfl) (fun K hK => ?_)
    go_simp
    try go_simp
    refine hK.out _ _ (HI.out _ TB) ?_
    clear hK K
    try simp only [Act.put, List.setIfInBounds_toArray, List.set_cons_zero, List.set_cons_succ]
    refine plan_nil ?_
    have H7 := Lib.hid (And.intro TB (And.intro BB (And.intro qB ltB)))
    clear TB BB qB ltB
    clear w2
  case' h2 =>
    refine plan_do _ (by rfl) (by rfl) (fun K hK => ?_)
    go_simp
    have A2 := (Below.refl w.heap.size w).alloc (Nat.le_refl _) (.cells #[.int .u64 0, .int .u64 0] 126)
    have BA := (HG.out.2.2.2.trans (A2.mono HG.out.2.2.2.size)).drew
    have qA : (w.alloc (.cells #[.int .u64 0, .int .u64 0] 126)).drew.heap[w.heap.size]? = _ := heap_alloc_new w (.cells #[.int .u64 0, .int .u64 0] 126)
    have TA := HG.out.2.2.1.below BA
    clear A2
    generalize (w.alloc (.cells #[.int .u64 0, .int .u64 0] 126)).drew = w1 at *
    try go_simp
    refine hK.out _ _ (HI.out _ TA) ?_
    clear hK K
    try simp only [Act.put, List.setIfInBounds_toArray, List.set_cons_zero, List.set_cons_succ]
    have HA0 := Lib.hid (And.intro TA (And.intro BA qA))
    clear TA BA qA
    refine plan_do _ (by rfl) (by rfl) (fun K hK => ?_)
    go_simp
    refine (HG.out.2.1 _ HA0.out.2.1).mono ?_
    rintro e W ⟨rfl, hb2⟩
    have TA := HA0.out.1.below hb2
    have BA := HA0.out.2.1.trans (hb2.mono HA0.out.2.1.size)
    have qA := (hb2.block w.heap.size (Array.getElem?_eq_some_iff.1 HA0.out.2.2).1).trans HA0.out.2.2
    obtain ⟨b6, hb6⟩ : ∃ b6, w.heap.size = b6 := ⟨_, rfl⟩
    have ltA : w.heap.size ≤ b6 := by omega
    rw [hb6] at qA
    simp only [hb6]
    clear hb2 HA0
    try go_simp
    refine hK.out _ _ (HI.out _ TA) ?_
    clear hK K
    try simp only [Act.put, List.setIfInBounds_toArray, List.set_cons_zero, List.set_cons_succ]
    refine' plan_take _ (by rfl) _ (by rfl) ?_ ?_
    rotate_left
    · rintro _ ⟨x, rfl⟩
      go_simp
      try with_reducible rfl
    try simp only [Act.put, List.setIfInBounds_toArray, List.set_cons_zero, List.set_cons_succ]
    refine' plan_take _ (by rfl) _ (by rfl) ?_ ?_
    rotate_left
    · rintro _ ⟨x, rfl⟩
      go_simp
      try with_reducible rfl
    try simp only [Act.put, List.setIfInBounds_toArray, List.set_cons_zero, List.set_cons_succ]
    refine' plan_take _ (by rfl) _ (by rfl) ?_ ?_
    rotate_left
    · rintro _ ⟨x, rfl⟩
      go_simp
      try with_reducible rfl
    try simp only [Act.put, List.setIfInBounds_toArray, List.set_cons_zero, List.set_cons_succ]
    have c0 : (W).cell? ⟨b6, 0, none⟩ = some (.int .u64 0) := by rw [cell_of_block qA]; rfl
    have c1 : (W).cell? ⟨b6, 1, none⟩ = some (.int .u64 0) := by rw [cell_of_block qA]; rfl
    have f0 : (W).frozen? ⟨b6, 0, none⟩ = false := frozen_of_block qA
    have f1 : (W).frozen? ⟨b6, 1, none⟩ = false := frozen_of_block qA
    have HA := Lib.hid (And.intro TA (And.intro BA (And.intro qA ltA)))
    clear TA BA qA ltA
    refine plan_do _ (by rfl) (by rfl) (fun K hK => ?_)
    go_simp
    have qB := st2_heap HA.out.2.2.1 (.int .u64 k0) (.int .u64 k1)
    have BB := st2_below HA.out.2.1 (HA.out.2.2.2) (.int .u64 k0) (.int .u64 k1)
    have TB : TreeOn ((W.setCell ⟨b6, 0, none⟩ (.int .u64 k0)).setCell ⟨b6, 1, none⟩ (.int .u64 k1)) px ps kind root := HG.out.2.2.1.below BB
    have ltB := HA.out.2.2.2
    clear c0 c1 f0 f1 HA
    generalize ((W.setCell ⟨b6, 0, none⟩ (.int .u64 k0)).setCell ⟨b6, 1, none⟩ (.int .u64 k1)) = W7 at *
    try go_simp
    refine hK.out _ _ (HI.out _ TB) ?_
    clear hK K
    try simp only [Act.put, List.setIfInBounds_toArray, List.set_cons_zero, List.set_cons_succ]
    refine plan_do _ (by rfl) (by rfl) (fun K hK => ?_)
    go_simp
    try go_simp
    refine hK.out _ _ (HI.out _ TB) ?_
    clear hK K
    try simp only [Act.put, List.setIfInBounds_toArray, List.set_cons_zero, List.set_cons_succ]
    refine plan_nil ?_
    have H7 := Lib.hid (And.intro TB (And.intro BB (And.intro qB ltB)))
    clear TB BB qB ltB
    clear w1
  all_goals
    clear HI hI0 hIo' m0 m1 m2 m3 m4 I
    obtain ⟨I, hIi, hIo⟩ := two_class (fun w' => TreeOn w' px ps kind root) (fun w' => w'.heap[b6]? = some (.cells #[.int .u64 k0, .int .u64 k1] 126))
    have hy0 := fun x : Keeps I => (hIi _ x.ok).1
    have hz0 := fun x : Keeps I => (hIi _ x.ok).2
    simp only [TreeOn] at hy0
    have m0 : ∀ x : Keeps I, x.to.cell? ⟨px, 0, none⟩ = some (PV ps) := fun x => by rw [cell_of_block (hy0 x)]; rfl
    have m1 : ∀ x : Keeps I, x.to.cell? ⟨px, 1, none⟩ = some (.int .i64 kind) := fun x => by rw [cell_of_block (hy0 x)]; rfl
    have m2 : ∀ x : Keeps I, x.to.cell? ⟨px, 2, none⟩ = some (.int .i64 0) := fun x => by rw [cell_of_block (hy0 x)]; rfl
    have m3 : ∀ x : Keeps I, x.to.cell? ⟨px, 3, none⟩ = some (.iface 247 (binV ps kind)) := fun x => by rw [cell_of_block (hy0 x)]; rfl
    have m4 : ∀ x : Keeps I, x.to.cell? ⟨px, 4, none⟩ = some (.int .u64 root) := fun x => by rw [cell_of_block (hy0 x)]; rfl
    have n0 : ∀ x : Keeps I, x.to.cell? ⟨b6, 0, none⟩ = some (.int .u64 k0) := fun x => by rw [cell_of_block (hz0 x)]; rfl
    have n1 : ∀ x : Keeps I, x.to.cell? ⟨b6, 1, none⟩ = some (.int .u64 k1) := fun x => by rw [cell_of_block (hz0 x)]; rfl
    have HI := Lib.hid hIo
    have hI0 : I W7.drew := hIo _ H7.out.1 H7.out.2.2.1
    clear hIi hIo hy0 hz0
    go_wp2_with fail
    refine wp_region_plan I (.take 0 (.take 1 (.take 2 (.take 3 (.take 4 (.take 5 (.go 6 (.take 7 (.take 8 (.take 9 (.go 10 (.go 11 .nil)))))))))))) (by kernel_rfl) (by kernel_rfl) hI0 ?_
    clear hI0
    refine' plan_take _ (by rfl) _ (by rfl) ?_ ?_
    rotate_left
    · rintro _ ⟨x, rfl⟩
      have hxm0 := m0 x
      have hxn1 := n1 x
      go_simp
      try with_reducible rfl
    try simp only [Act.put, List.setIfInBounds_toArray, List.set_cons_zero, List.set_cons_succ]
    refine' plan_take _ (by rfl) _ (by rfl) ?_ ?_
    rotate_left
    · rintro _ ⟨x, rfl⟩
      have hxm0 := m0 x
      have hxn1 := n1 x
      go_simp
      try with_reducible rfl
    try simp only [Act.put, List.setIfInBounds_toArray, List.set_cons_zero, List.set_cons_succ]
    refine' plan_take _ (by rfl) _ (by rfl) ?_ ?_
    rotate_left
    · rintro _ ⟨x, rfl⟩
      have hxm0 := m0 x
      have hxn1 := n1 x
      go_simp
      try with_reducible rfl
    try simp only [Act.put, List.setIfInBounds_toArray, List.set_cons_zero, List.set_cons_succ]
    refine' plan_take _ (by rfl) _ (by rfl) ?_ ?_
    rotate_left
    · rintro _ ⟨x, rfl⟩
      have hxm0 := m0 x
      have hxn1 := n1 x
      go_simp
      try with_reducible rfl
    try simp only [Act.put, List.setIfInBounds_toArray, List.set_cons_zero, List.set_cons_succ]
    refine' plan_take _ (by rfl) _ (by rfl) ?_ ?_
    rotate_left
    · rintro _ ⟨x, rfl⟩
      have hxm0 := m0 x
      have hxn1 := n1 x
      go_simp
      try with_reducible rfl
    try simp only [Act.put, List.setIfInBounds_toArray, List.set_cons_zero, List.set_cons_succ]
    refine' plan_take _ (by rfl) _ (by rfl) ?_ ?_
    rotate_left
    · rintro _ ⟨x, rfl⟩
      have hxm0 := m0 x
      have hxn1 := n1 x
      go_simp
      try with_reducible rfl
    try simp only [Act.put, List.setIfInBounds_toArray, List.set_cons_zero, List.set_cons_succ]
    refine plan_do _ (by rfl) (by rfl) (fun K hK => ?_)
    go_simp
    refine (HU.out _ H7.out.2.1.drew).mono ?_
    rintro e w8 ⟨rfl, hb⟩
    have T2 := TreeOn.below (w := W7.drew) (H7.out.1.below (Below.refl _ _).drew) hb
    have q2 := (hb.block b6 (Array.getElem?_eq_some_iff.1 H7.out.2.2.1).1).trans H7.out.2.2.1
    have HX := Lib.hid (And.intro T2 (And.intro q2 (H7.out.2.1.drew.trans (hb.mono H7.out.2.1.drew.size))))
    clear hb T2 q2
    try go_simp
    refine hK.out _ _ (HI.out _ HX.out.1 HX.out.2.1) ?_
    clear hK K
    try simp only [Act.put, List.setIfInBounds_toArray, List.set_cons_zero, List.set_cons_succ]
    refine' plan_take _ (by rfl) _ (by rfl) ?_ ?_
    rotate_left
    · rintro _ ⟨x, rfl⟩
      go_simp
      try with_reducible rfl
    try simp only [Act.put, List.setIfInBounds_toArray, List.set_cons_zero, List.set_cons_succ]
    refine' plan_take _ (by rfl) _ (by rfl) ?_ ?_
    rotate_left
    · rintro _ ⟨x, rfl⟩
      go_simp
      try with_reducible rfl
    try simp only [Act.put, List.setIfInBounds_toArray, List.set_cons_zero, List.set_cons_succ]
    refine' plan_take _ (by rfl) _ (by rfl) ?_ ?_
    rotate_left
    · rintro _ ⟨x, rfl⟩
      go_simp
      try with_reducible rfl
    try simp only [Act.put, List.setIfInBounds_toArray, List.set_cons_zero, List.set_cons_succ]
    refine plan_do _ (by rfl) (by rfl) (fun K hK => ?_)
    go_simp
    try go_simp
    refine hK.out _ _ (HI.out _ HX.out.1 HX.out.2.1) ?_
    clear hK K
    try simp only [Act.put, List.setIfInBounds_toArray, List.set_cons_zero, List.set_cons_succ]
    refine plan_do _ (by rfl) (by rfl) (fun K hK => ?_)
    go_simp
    try go_simp
    refine hK.out _ _ (HI.out _ HX.out.1 HX.out.2.1) ?_
    clear hK K
    try simp only [Act.put, List.setIfInBounds_toArray, List.set_cons_zero, List.set_cons_succ]
    refine plan_nil ?_
    go_wp2_with fail
    go_ret2
    exact ⟨rfl, HX.out.2.2⟩

set_option maxRecDepth 100000 in
set_option maxHeartbeats 3200000 in
theorem tree_at_ref {w : World} {px ps kind root : Nat} (hT : TreeOn w px ps kind root) (k : Int) (k0 k1 : Nat) (hs : ∀ W, Below w.heap.size w W → Calls Tryz.prog 356 #[binV ps kind, .int .u64 root, .int .i64 k] W fun e w' => e = .returned (.tuple #[.agg #[.int .u64 k0, .int .u64 k1], .int .i64 2]) ∧ Below W.heap.size W w') :
    Calls Tryz.prog 60 #[PV px, .int .i64 k] w fun e w' => e = .returned (.tuple #[.agg #[.string ⟨#[]⟩, .string ⟨#[]⟩], .int .i64 2]) ∧ Below w.heap.size w w' := by
  have B0 := (Below.refl w.heap.size w).alloc (Nat.le_refl _) (.cells #[.string ⟨#[]⟩, .string ⟨#[]⟩] 50)
  have y0 := heap_alloc_new w (.cells #[.string ⟨#[]⟩, .string ⟨#[]⟩] 50)
  have hn := tree_none (hT.below B0)
  obtain ⟨I, hIi, hIo⟩ := tree_class px ps kind root
  have hy0 := fun x : Keeps I => hIi _ x.ok
  simp only [TreeOn] at hy0
  have m0 : ∀ x : Keeps I, x.to.cell? ⟨px, 0, none⟩ = some (PV ps) := fun x => by rw [cell_of_block (hy0 x)]; rfl
  have m1 : ∀ x : Keeps I, x.to.cell? ⟨px, 1, none⟩ = some (.int .i64 kind) := fun x => by rw [cell_of_block (hy0 x)]; rfl
  have m2 : ∀ x : Keeps I, x.to.cell? ⟨px, 2, none⟩ = some (.int .i64 0) := fun x => by rw [cell_of_block (hy0 x)]; rfl
  have m3 : ∀ x : Keeps I, x.to.cell? ⟨px, 3, none⟩ = some (.iface 247 (binV ps kind)) := fun x => by rw [cell_of_block (hy0 x)]; rfl
  have m4 : ∀ x : Keeps I, x.to.cell? ⟨px, 4, none⟩ = some (.int .u64 root) := fun x => by rw [cell_of_block (hy0 x)]; rfl
  have hI0 : I (w.alloc (.cells #[.string ⟨#[]⟩, .string ⟨#[]⟩] 50)).drew := hIo _ (hT.below B0.drew)
  have hme := meth_at
  have HI := Lib.hid hIo
  have HG := Lib.hid (And.intro hn (And.intro hs (And.intro hT (And.intro B0 y0))))
  clear hn hs hT hIi hIo hy0 B0 y0
  go_enter Tryz.func60, Tryz.ntmps60
  go_wp2_with fail
  refine HG.out.1.mono ?_
  rintro e w1 ⟨rfl, rfl⟩
  go_wp2_with fail
  refine wp_region_plan I (.take 0 (.take 1 (.take 2 (.take 3 (.take 4 (.take 5 (.take 6 (.take 7 (.take 8 (.take 9 (.take 10 (.two 11 15 (.take 12 (.take 13 (.take 14 (.go 15 (.go 16 (.go 17 .nil)))))) (.go 11 (.take 12 (.take 13 (.take 14 (.go 16 (.go 17 .nil)))))))))))))))))) (by kernel_rfl) (by kernel_rfl) hI0 ?_
  refine' plan_take _ (by rfl) _ (by rfl) ?_ ?_
  rotate_left
  · rintro _ ⟨x, rfl⟩
    have hxm0 := m0 x
    have hxm1 := m1 x
    have hxm2 := m2 x
    have hxm3 := m3 x
    have hxm4 := m4 x
    go_simp
    try with_reducible rfl
  try simp only [Act.put, List.setIfInBounds_toArray, List.set_cons_zero, List.set_cons_succ]
  refine' plan_take _ (by rfl) _ (by rfl) ?_ ?_
  rotate_left
  · rintro _ ⟨x, rfl⟩
    have hxm0 := m0 x
    have hxm1 := m1 x
    have hxm2 := m2 x
    have hxm3 := m3 x
    have hxm4 := m4 x
    go_simp
    try with_reducible rfl
  try simp only [Act.put, List.setIfInBounds_toArray, List.set_cons_zero, List.set_cons_succ]
  refine' plan_take _ (by rfl) _ (by rfl) ?_ ?_
  rotate_left
  · rintro _ ⟨x, rfl⟩
    have hxm0 := m0 x
    have hxm1 := m1 x
    have hxm2 := m2 x
    have hxm3 := m3 x
    have hxm4 := m4 x
    go_simp
    try with_reducible rfl
  try simp only [Act.put, List.setIfInBounds_toArray, List.set_cons_zero, List.set_cons_succ]
  refine' plan_take _ (by rfl) _ (by rfl) ?_ ?_
  rotate_left
  · rintro _ ⟨x, rfl⟩
    have hxm0 := m0 x
    have hxm1 := m1 x
    have hxm2 := m2 x
    have hxm3 := m3 x
    have hxm4 := m4 x
    go_simp
    try with_reducible rfl
  try simp only [Act.put, List.setIfInBounds_toArray, List.set_cons_zero, List.set_cons_succ]
  refine' plan_take _ (by rfl) _ (by rfl) ?_ ?_
  rotate_left
  · rintro _ ⟨x, rfl⟩
    have hxm0 := m0 x
    have hxm1 := m1 x
    have hxm2 := m2 x
    have hxm3 := m3 x
    have hxm4 := m4 x
    go_simp
    try with_reducible rfl
  try simp only [Act.put, List.setIfInBounds_toArray, List.set_cons_zero, List.set_cons_succ]
  refine' plan_take _ (by rfl) _ (by rfl) ?_ ?_
  rotate_left
  · rintro _ ⟨x, rfl⟩
    have hxm0 := m0 x
    have hxm1 := m1 x
    have hxm2 := m2 x
    have hxm3 := m3 x
    have hxm4 := m4 x
    go_simp
    try with_reducible rfl
  try simp only [Act.put, List.setIfInBounds_toArray, List.set_cons_zero, List.set_cons_succ]
  refine' plan_take _ (by rfl) _ (by rfl) ?_ ?_
  rotate_left
  · rintro _ ⟨x, rfl⟩
    have hxm0 := m0 x
    have hxm1 := m1 x
    have hxm2 := m2 x
    have hxm3 := m3 x
    have hxm4 := m4 x
    go_simp
    try with_reducible rfl
  try simp only [Act.put, List.setIfInBounds_toArray, List.set_cons_zero, List.set_cons_succ]
  refine' plan_take _ (by rfl) _ (by rfl) ?_ ?_
  rotate_left
  · rintro _ ⟨x, rfl⟩
    have hxm0 := m0 x
    have hxm1 := m1 x
    have hxm2 := m2 x
    have hxm3 := m3 x
    have hxm4 := m4 x
    go_simp
    try with_reducible rfl
  try simp only [Act.put, List.setIfInBounds_toArray, List.set_cons_zero, List.set_cons_succ]
  refine' plan_take _ (by rfl) _ (by rfl) ?_ ?_
  rotate_left
  · rintro _ ⟨x, rfl⟩
    have hxm0 := m0 x
    have hxm1 := m1 x
    have hxm2 := m2 x
    have hxm3 := m3 x
    have hxm4 := m4 x
    go_simp
    try with_reducible rfl
  try simp only [Act.put, List.setIfInBounds_toArray, List.set_cons_zero, List.set_cons_succ]
  refine' plan_take _ (by rfl) _ (by rfl) ?_ ?_
  rotate_left
  · rintro _ ⟨x, rfl⟩
    have hxm0 := m0 x
    have hxm1 := m1 x
    have hxm2 := m2 x
    have hxm3 := m3 x
    have hxm4 := m4 x
    go_simp
    try with_reducible rfl
  try simp only [Act.put, List.setIfInBounds_toArray, List.set_cons_zero, List.set_cons_succ]
  refine' plan_take _ (by rfl) _ (by rfl) ?_ ?_
  rotate_left
  · rintro _ ⟨x, rfl⟩
    have hxm0 := m0 x
    have hxm1 := m1 x
    have hxm2 := m2 x
    have hxm3 := m3 x
    have hxm4 := m4 x
    go_simp
    try with_reducible rfl
  try simp only [Act.put, List.setIfInBounds_toArray, List.set_cons_zero, List.set_cons_succ]
  refine plan_two ?h1 ?h2
  case' h1 =>
    refine plan_do _ (by rfl) (by rfl) (fun K hK => ?_)
    go_simp
    refine (HG.out.2.1 _ HG.out.2.2.2.1.drew).mono ?_
    rintro e w2 ⟨rfl, hb2⟩
    have T2 := TreeOn.below (w := (w.alloc (.cells #[.string ⟨#[]⟩, .string ⟨#[]⟩] 50)).drew) (HG.out.2.2.1.below HG.out.2.2.2.1.drew) hb2
    have y2 := (hb2.block w.heap.size (by show w.heap.size < (w.alloc _).heap.size; simp)).trans HG.out.2.2.2.2
    have B2' := HG.out.2.2.2.1.drew.trans (hb2.mono HG.out.2.2.2.1.drew.size)
    have B2 := Lib.hid (And.intro T2 (And.intro B2' y2))
    clear T2 hb2 B2' y2
    try go_simp
    refine hK.out _ _ (HI.out _ B2.out.1) ?_
    clear hK K
    try simp only [Act.put, List.setIfInBounds_toArray, List.set_cons_zero, List.set_cons_succ]
    refine' plan_take _ (by rfl) _ (by rfl) ?_ ?_
    rotate_left
    · rintro _ ⟨x, rfl⟩
      go_simp
      try with_reducible rfl
    try simp only [Act.put, List.setIfInBounds_toArray, List.set_cons_zero, List.set_cons_succ]
    refine' plan_take _ (by rfl) _ (by rfl) ?_ ?_
    rotate_left
    · rintro _ ⟨x, rfl⟩
      go_simp
      try with_reducible rfl
    try simp only [Act.put, List.setIfInBounds_toArray, List.set_cons_zero, List.set_cons_succ]
    refine' plan_take _ (by rfl) _ (by rfl) ?_ ?_
    rotate_left
    · rintro _ ⟨x, rfl⟩
      go_simp
      try with_reducible rfl
    try simp only [Act.put, List.setIfInBounds_toArray, List.set_cons_zero, List.set_cons_succ]
    refine plan_do _ (by rfl) (by rfl) (fun K hK => ?_)
    go_simp
    have A2 := (Below.refl w2.heap.size w2).alloc (Nat.le_refl _) (.cells #[.int .u64 0, .int .u64 0] 126)
    have TA := B2.out.1.below A2
    have BA := B2.out.2.1.trans (A2.mono B2.out.2.1.size)
    have yA := (A2.block w.heap.size (Array.getElem?_eq_some_iff.1 B2.out.2.2).1).trans B2.out.2.2
    have qA := heap_alloc_new w2 (.cells #[.int .u64 0, .int .u64 0] 126)
    have ltA : w.heap.size < w2.heap.size := (Array.getElem?_eq_some_iff.1 B2.out.2.2).1
    clear A2 B2
    generalize w2.alloc (.cells #[.int .u64 0, .int .u64 0] 126) = W at *
    generalize w2.heap.size = b6 at *
    try go_simp
    refine hK.out _ _ (HI.out _ TA) ?_
    clear hK K
    try simp only [Act.put, List.setIfInBounds_toArray, List.set_cons_zero, List.set_cons_succ]
    have c0 : (W).cell? ⟨b6, 0, none⟩ = some (.int .u64 0) := by rw [cell_of_block qA]; rfl
    have c1 : (W).cell? ⟨b6, 1, none⟩ = some (.int .u64 0) := by rw [cell_of_block qA]; rfl
    have f0 : (W).frozen? ⟨b6, 0, none⟩ = false := frozen_of_block qA
    have f1 : (W).frozen? ⟨b6, 1, none⟩ = false := frozen_of_block qA
    have HA := Lib.hid (And.intro TA (And.intro BA (And.intro yA (And.intro qA ltA))))
    clear TA BA yA qA ltA
    refine plan_do _ (by rfl) (by rfl) (fun K hK => ?_)
    go_simp
    have qB := st2_heap HA.out.2.2.2.1 (.int .u64 k0) (.int .u64 k1)
    have BB := st2_below HA.out.2.1 (Nat.le_of_lt HA.out.2.2.2.2) (.int .u64 k0) (.int .u64 k1)
    have yB := (st2_other (Nat.ne_of_lt HA.out.2.2.2.2) (.int .u64 k0) (.int .u64 k1)).trans HA.out.2.2.1
    have TB : TreeOn ((W.setCell ⟨b6, 0, none⟩ (.int .u64 k0)).setCell ⟨b6, 1, none⟩ (.int .u64 k1)) px ps kind root := HG.out.2.2.1.below BB
    have ltB := HA.out.2.2.2.2
    clear c0 c1 f0 f1 HA
    generalize ((W.setCell ⟨b6, 0, none⟩ (.int .u64 k0)).setCell ⟨b6, 1, none⟩ (.int .u64 k1)) = W7 at *
    try go_simp
    refine hK.out _ _ (HI.out _ TB) ?_
    clear hK K
    try simp only [Act.put, List.setIfInBounds_toArray, List.set_cons_zero, List.set_cons_succ]
    refine plan_do _ (by rfl) (by rfl) (fun K hK => ?_)
    go_simp
    try go_simp
    refine hK.out _ _ (HI.out _ TB) ?_
    clear hK K
    try simp only [Act.put, List.setIfInBounds_toArray, List.set_cons_zero, List.set_cons_succ]
    refine plan_nil ?_
    have H7 := Lib.hid (And.intro TB (And.intro BB (And.intro yB (And.intro qB ltB))))
    clear TB BB yB qB ltB
    clear w2
  case' h2 =>
    refine plan_do _ (by rfl) (by rfl) (fun K hK => ?_)
    go_simp
    have A2 := (Below.refl (w.alloc (.cells #[.string ⟨#[]⟩, .string ⟨#[]⟩] 50)).heap.size (w.alloc (.cells #[.string ⟨#[]⟩, .string ⟨#[]⟩] 50))).alloc (Nat.le_refl _) (.cells #[.int .u64 0, .int .u64 0] 126)
    have BA := (HG.out.2.2.2.1.trans (A2.mono HG.out.2.2.2.1.size)).drew
    have qA : ((w.alloc (.cells #[.string ⟨#[]⟩, .string ⟨#[]⟩] 50)).alloc (.cells #[.int .u64 0, .int .u64 0] 126)).drew.heap[(w.alloc (.cells #[.string ⟨#[]⟩, .string ⟨#[]⟩] 50)).heap.size]? = _ := heap_alloc_new (w.alloc (.cells #[.string ⟨#[]⟩, .string ⟨#[]⟩] 50)) (.cells #[.int .u64 0, .int .u64 0] 126)
    have yA : ((w.alloc (.cells #[.string ⟨#[]⟩, .string ⟨#[]⟩] 50)).alloc (.cells #[.int .u64 0, .int .u64 0] 126)).drew.heap[w.heap.size]? = _ := (A2.block w.heap.size (by simp)).trans HG.out.2.2.2.2
    simp only [World.size_alloc] at qA
    have TA := HG.out.2.2.1.below BA
    clear A2
    generalize ((w.alloc (.cells #[.string ⟨#[]⟩, .string ⟨#[]⟩] 50)).alloc (.cells #[.int .u64 0, .int .u64 0] 126)).drew = w1 at *
    try go_simp
    refine hK.out _ _ (HI.out _ TA) ?_
    clear hK K
    try simp only [Act.put, List.setIfInBounds_toArray, List.set_cons_zero, List.set_cons_succ]
    have HA0 := Lib.hid (And.intro TA (And.intro BA (And.intro yA qA)))
    clear TA BA yA qA
    refine plan_do _ (by rfl) (by rfl) (fun K hK => ?_)
    go_simp
    refine (HG.out.2.1 _ HA0.out.2.1).mono ?_
    rintro e W ⟨rfl, hb2⟩
    have TA := HA0.out.1.below hb2
    have BA := HA0.out.2.1.trans (hb2.mono HA0.out.2.1.size)
    have yA := (hb2.block w.heap.size (Array.getElem?_eq_some_iff.1 HA0.out.2.2.1).1).trans HA0.out.2.2.1
    have qA := (hb2.block (w.heap.size + 1) (Array.getElem?_eq_some_iff.1 HA0.out.2.2.2).1).trans HA0.out.2.2.2
    have ltA : w.heap.size < w.heap.size + 1 := by omega
    clear hb2 HA0
    generalize w.heap.size + 1 = b6 at *
    try go_simp
    refine hK.out _ _ (HI.out _ TA) ?_
    clear hK K
    try simp only [Act.put, List.setIfInBounds_toArray, List.set_cons_zero, List.set_cons_succ]
    refine' plan_take _ (by rfl) _ (by rfl) ?_ ?_
    rotate_left
    · rintro _ ⟨x, rfl⟩
      go_simp
      try with_reducible rfl
    try simp only [Act.put, List.setIfInBounds_toArray, List.set_cons_zero, List.set_cons_succ]
    refine' plan_take _ (by rfl) _ (by rfl) ?_ ?_
    rotate_left
    · rintro _ ⟨x, rfl⟩
      go_simp
      try with_reducible rfl
    try simp only [Act.put, List.setIfInBounds_toArray, List.set_cons_zero, List.set_cons_succ]
    refine' plan_take _ (by rfl) _ (by rfl) ?_ ?_
    rotate_left
    · rintro _ ⟨x, rfl⟩
      go_simp
      try with_reducible rfl
    try simp only [Act.put, List.setIfInBounds_toArray, List.set_cons_zero, List.set_cons_succ]
    have c0 : (W).cell? ⟨b6, 0, none⟩ = some (.int .u64 0) := by rw [cell_of_block qA]; rfl
    have c1 : (W).cell? ⟨b6, 1, none⟩ = some (.int .u64 0) := by rw [cell_of_block qA]; rfl
    have f0 : (W).frozen? ⟨b6, 0, none⟩ = false := frozen_of_block qA
    have f1 : (W).frozen? ⟨b6, 1, none⟩ = false := frozen_of_block qA
    have HA := Lib.hid (And.intro TA (And.intro BA (And.intro yA (And.intro qA ltA))))
    clear TA BA yA qA ltA
    refine plan_do _ (by rfl) (by rfl) (fun K hK => ?_)
    go_simp
    have qB := st2_heap HA.out.2.2.2.1 (.int .u64 k0) (.int .u64 k1)
    have BB := st2_below HA.out.2.1 (Nat.le_of_lt HA.out.2.2.2.2) (.int .u64 k0) (.int .u64 k1)
    have yB := (st2_other (Nat.ne_of_lt HA.out.2.2.2.2) (.int .u64 k0) (.int .u64 k1)).trans HA.out.2.2.1
    have TB : TreeOn ((W.setCell ⟨b6, 0, none⟩ (.int .u64 k0)).setCell ⟨b6, 1, none⟩ (.int .u64 k1)) px ps kind root := HG.out.2.2.1.below BB
    have ltB := HA.out.2.2.2.2
    clear c0 c1 f0 f1 HA
    generalize ((W.setCell ⟨b6, 0, none⟩ (.int .u64 k0)).setCell ⟨b6, 1, none⟩ (.int .u64 k1)) = W7 at *
    try go_simp
    refine hK.out _ _ (HI.out _ TB) ?_
    clear hK K
    try simp only [Act.put, List.setIfInBounds_toArray, List.set_cons_zero, List.set_cons_succ]
    refine plan_do _ (by rfl) (by rfl) (fun K hK => ?_)
    go_simp
    try go_simp
    refine hK.out _ _ (HI.out _ TB) ?_
    clear hK K
    try simp only [Act.put, List.setIfInBounds_toArray, List.set_cons_zero, List.set_cons_succ]
    refine plan_nil ?_
    have H7 := Lib.hid (And.intro TB (And.intro BB (And.intro yB (And.intro qB ltB))))
    clear TB BB yB qB ltB
    clear w1
  all_goals
    have y := H7.out.2.2.1
    have c0 : (W7).cell? ⟨w.heap.size, 0, none⟩ = some (.string ⟨#[]⟩) := by rw [cell_of_block y]; rfl
    have c1 : (W7).cell? ⟨w.heap.size, 1, none⟩ = some (.string ⟨#[]⟩) := by rw [cell_of_block y]; rfl
    have f0 : (W7).frozen? ⟨w.heap.size, 0, none⟩ = false := frozen_of_block y
    have f1 : (W7).frozen? ⟨w.heap.size, 1, none⟩ = false := frozen_of_block y
    have q5 := st2_heap y (.string ⟨#[]⟩) (.string ⟨#[]⟩)
    have B5 := st2_below H7.out.2.1 (Nat.le_refl _) (.string ⟨#[]⟩) (.string ⟨#[]⟩)
    have HB := Lib.hid (And.intro q5 B5)
    clear y q5 B5
    go_wp2_with fail
    obtain ⟨q5, B5⟩ := HB.out
    generalize ((W7.setCell ⟨w.heap.size, 0, none⟩ (.string ⟨#[]⟩)).setCell ⟨w.heap.size, 1, none⟩ (.string ⟨#[]⟩)) = wF at *
    have e0 : (wF).cell? ⟨w.heap.size, 0, none⟩ = some (.string ⟨#[]⟩) := by rw [cell_of_block q5]; rfl
    have e1 : (wF).cell? ⟨w.heap.size, 1, none⟩ = some (.string ⟨#[]⟩) := by rw [cell_of_block q5]; rfl
    exact bodyPost_ret (v := .tuple #[.agg #[.string ⟨#[]⟩, .string ⟨#[]⟩], .int .i64 2]) (by simp [results, Tryz.f60, go_sem, e0, e1]) rfl ⟨rfl, B5⟩

end Go.Proofs.YtoaabbnieakidaaGreatDoorR
