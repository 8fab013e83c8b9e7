/- Trees of any kind: Check, List of no node; gone of nothing: the walks. -/
import Derived.Test.YtoaabbnieakidaaGreatDoorRGaz
namespace Go.Proofs.YtoaabbnieakidaaGreatDoorR
open Go.RowKit Go.BigFrame Go.Maps Go.WideMaps Lf

set_option maxRecDepth 100000 in
set_option maxHeartbeats 800000 in
theorem tree_check0 {w : World} {px ps kind : Nat} {S : St} {Y : Nat → Prop} (h : StOn w ps S Y) (hi : Inv S) (hT : TreeOn w px ps kind 0) {j c : FuncId} {jn : Jn} (hk : KindOk kind j c jn) :
    Calls Tryz.prog 119 #[PV px] w fun e w' => e = .returned (.int .i64 0) ∧ Below w.heap.size w w' := by
  have hn := tree_none hT
  have hs := bulk_check0 (h.below ((Below.refl _ w).drew)) hi hk 0
  obtain ⟨I, hIi, hIo⟩ := tree_class px ps kind 0
  have hy0 := fun x : Keeps I => hIi _ x.ok
  simp only [TreeOn] at hy0
  have m0 : ∀ x : Keeps I, x.to.cell? ⟨px, 0, none⟩ = some (PV ps) := fun x => by rw [cell_of_block (hy0 x)]; rfl
  have m1 : ∀ x : Keeps I, x.to.cell? ⟨px, 1, none⟩ = some (.int .i64 kind) := fun x => by rw [cell_of_block (hy0 x)]; rfl
  have m2 : ∀ x : Keeps I, x.to.cell? ⟨px, 2, none⟩ = some (.int .i64 0) := fun x => by rw [cell_of_block (hy0 x)]; rfl
  have m3 : ∀ x : Keeps I, x.to.cell? ⟨px, 3, none⟩ = some (.iface 247 (binV ps kind)) := fun x => by rw [cell_of_block (hy0 x)]; rfl
  have m4 : ∀ x : Keeps I, x.to.cell? ⟨px, 4, none⟩ = some (.int .u64 0) := fun x => by rw [cell_of_block (hy0 x)]; rfl
  have hI0 : I w.drew := hIo _ hT
  have HG := Lib.hid (And.intro hn (And.intro hs (And.intro hT hIo)))
  clear hn hs h hi hT hIi hIo hy0 hk
  go_enter Tryz.func119, Tryz.ntmps119
  go_wp2_with fail
  refine HG.out.1.mono ?_
  rintro e w1 ⟨rfl, rfl⟩
  go_wp2_with fail
  refine wp_region_plan I (.take 0 (.take 1 (.take 2 (.take 3 (.take 4 (.take 5 (.take 6 (.take 7 (.take 8 (.take 9 (.take 10 (.take 11 (.take 12 (.take 13 (.take 14 (.take 15 (.go 16 (.go 17 .nil)))))))))))))))))) (by kernel_rfl) (by kernel_rfl) hI0 ?_
  refine' plan_take _ (by rfl) _ (by rfl) ?_ ?_
  rotate_left
  · rintro _ ⟨x, rfl⟩
    have hxm0 := m0 x
    have hxm1 := m1 x
    have hxm2 := m2 x
    have hxm3 := m3 x
    have hxm4 := m4 x
    go_simp
    try with_reducible rfl
  try simp only [Act.put, List.setIfInBounds_toArray, List.set_cons_zero, List.set_cons_succ]
  refine' plan_take _ (by rfl) _ (by rfl) ?_ ?_
  rotate_left
  · rintro _ ⟨x, rfl⟩
    have hxm0 := m0 x
    have hxm1 := m1 x
    have hxm2 := m2 x
    have hxm3 := m3 x
    have hxm4 := m4 x
    go_simp
    try with_reducible rfl
  try simp only [Act.put, List.setIfInBounds_toArray, List.set_cons_zero, List.set_cons_succ]
  refine' plan_take _ (by rfl) _ (by rfl) ?_ ?_
  rotate_left
  · rintro _ ⟨x, rfl⟩
    have hxm0 := m0 x
    have hxm1 := m1 x
    have hxm2 := m2 x
    have hxm3 := m3 x
    have hxm4 := m4 x
    go_simp
    try with_reducible rfl
  try simp only [Act.put, List.setIfInBounds_toArray, List.set_cons_zero, List.set_cons_succ]
  refine' plan_take _ (by rfl) _ (by rfl) ?_ ?_
  rotate_left
  · rintro _ ⟨x, rfl⟩
    have hxm0 := m0 x
    have hxm1 := m1 x
    have hxm2 := m2 x
    have hxm3 := m3 x
    have hxm4 := m4 x
    go_simp
    try with_reducible rfl
  try simp only [Act.put, List.setIfInBounds_toArray, List.set_cons_zero, List.set_cons_succ]
  refine' plan_take _ (by rfl) _ (by rfl) ?_ ?_
  rotate_left
  · rintro _ ⟨x, rfl⟩
    have hxm0 := m0 x
    have hxm1 := m1 x
    have hxm2 := m2 x
    have hxm3 := m3 x
    have hxm4 := m4 x
    go_simp
    try with_reducible rfl
  try simp only [Act.put, List.setIfInBounds_toArray, List.set_cons_zero, List.set_cons_succ]
  refine' plan_take _ (by rfl) _ (by rfl) ?_ ?_
  rotate_left
  · rintro _ ⟨x, rfl⟩
    have hxm0 := m0 x
    have hxm1 := m1 x
    have hxm2 := m2 x
    have hxm3 := m3 x
    have hxm4 := m4 x
    go_simp
    try with_reducible rfl
  try simp only [Act.put, List.setIfInBounds_toArray, List.set_cons_zero, List.set_cons_succ]
  refine' plan_take _ (by rfl) _ (by rfl) ?_ ?_
  rotate_left
  · rintro _ ⟨x, rfl⟩
    have hxm0 := m0 x
    have hxm1 := m1 x
    have hxm2 := m2 x
    have hxm3 := m3 x
    have hxm4 := m4 x
    go_simp
    try with_reducible rfl
  try simp only [Act.put, List.setIfInBounds_toArray, List.set_cons_zero, List.set_cons_succ]
  refine' plan_take _ (by rfl) _ (by rfl) ?_ ?_
  rotate_left
  · rintro _ ⟨x, rfl⟩
    have hxm0 := m0 x
    have hxm1 := m1 x
    have hxm2 := m2 x
    have hxm3 := m3 x
    have hxm4 := m4 x
    go_simp
    try with_reducible rfl
  try simp only [Act.put, List.setIfInBounds_toArray, List.set_cons_zero, List.set_cons_succ]
  refine' plan_take _ (by rfl) _ (by rfl) ?_ ?_
  rotate_left
  · rintro _ ⟨x, rfl⟩
    have hxm0 := m0 x
    have hxm1 := m1 x
    have hxm2 := m2 x
    have hxm3 := m3 x
    have hxm4 := m4 x
    go_simp
    try with_reducible rfl
  try simp only [Act.put, List.setIfInBounds_toArray, List.set_cons_zero, List.set_cons_succ]
  refine' plan_take _ (by rfl) _ (by rfl) ?_ ?_
  rotate_left
  · rintro _ ⟨x, rfl⟩
    have hxm0 := m0 x
    have hxm1 := m1 x
    have hxm2 := m2 x
    have hxm3 := m3 x
    have hxm4 := m4 x
    go_simp
    try with_reducible rfl
  try simp only [Act.put, List.setIfInBounds_toArray, List.set_cons_zero, List.set_cons_succ]
  refine' plan_take _ (by rfl) _ (by rfl) ?_ ?_
  rotate_left
  · rintro _ ⟨x, rfl⟩
    have hxm0 := m0 x
    have hxm1 := m1 x
    have hxm2 := m2 x
    have hxm3 := m3 x
    have hxm4 := m4 x
    go_simp
    try with_reducible rfl
  try simp only [Act.put, List.setIfInBounds_toArray, List.set_cons_zero, List.set_cons_succ]
  refine' plan_take _ (by rfl) _ (by rfl) ?_ ?_
  rotate_left
  · rintro _ ⟨x, rfl⟩
    have hxm0 := m0 x
    have hxm1 := m1 x
    have hxm2 := m2 x
    have hxm3 := m3 x
    have hxm4 := m4 x
    go_simp
    try with_reducible rfl
  try simp only [Act.put, List.setIfInBounds_toArray, List.set_cons_zero, List.set_cons_succ]
  refine' plan_take _ (by rfl) _ (by rfl) ?_ ?_
  rotate_left
  · rintro _ ⟨x, rfl⟩
    have hxm0 := m0 x
    have hxm1 := m1 x
    have hxm2 := m2 x
    have hxm3 := m3 x
    have hxm4 := m4 x
    go_simp
    try with_reducible rfl
  try simp only [Act.put, List.setIfInBounds_toArray, List.set_cons_zero, List.set_cons_succ]
  refine' plan_take _ (by rfl) _ (by rfl) ?_ ?_
  rotate_left
  · rintro _ ⟨x, rfl⟩
    have hxm0 := m0 x
    have hxm1 := m1 x
    have hxm2 := m2 x
    have hxm3 := m3 x
    have hxm4 := m4 x
    go_simp
    try with_reducible rfl
  try simp only [Act.put, List.setIfInBounds_toArray, List.set_cons_zero, List.set_cons_succ]
  refine' plan_take _ (by rfl) _ (by rfl) ?_ ?_
  rotate_left
  · rintro _ ⟨x, rfl⟩
    have hxm0 := m0 x
    have hxm1 := m1 x
    have hxm2 := m2 x
    have hxm3 := m3 x
    have hxm4 := m4 x
    go_simp
    try with_reducible rfl
  try simp only [Act.put, List.setIfInBounds_toArray, List.set_cons_zero, List.set_cons_succ]
  refine' plan_take _ (by rfl) _ (by rfl) ?_ ?_
  rotate_left
  · rintro _ ⟨x, rfl⟩
    have hxm0 := m0 x
    have hxm1 := m1 x
    have hxm2 := m2 x
    have hxm3 := m3 x
    have hxm4 := m4 x
    go_simp
    try with_reducible rfl
  try simp only [Act.put, List.setIfInBounds_toArray, List.set_cons_zero, List.set_cons_succ]
  refine plan_do _ (by rfl) (by rfl) (fun K hK => ?_)
  go_simp
  refine HG.out.2.1.mono ?_
  rintro e w2 ⟨rfl, hb2⟩
  have T2 := TreeOn.below (w := w.drew) HG.out.2.2.1 hb2
  have B2 := Lib.hid (And.intro T2 ((Below.refl w.heap.size w).drew.trans hb2))
  clear T2 hb2
  try go_simp
  refine hK.out _ _ (HG.out.2.2.2 _ B2.out.1) ?_
  clear hK K
  try simp only [Act.put, List.setIfInBounds_toArray, List.set_cons_zero, List.set_cons_succ]
  refine plan_do _ (by rfl) (by rfl) (fun K hK => ?_)
  go_simp
  try go_simp
  refine hK.out _ _ (HG.out.2.2.2 _ B2.out.1) ?_
  clear hK K
  try simp only [Act.put, List.setIfInBounds_toArray, List.set_cons_zero, List.set_cons_succ]
  refine plan_nil ?_
  go_wp2_with fail
  go_ret
  exact ⟨rfl, B2.out.2⟩

set_option maxRecDepth 100000 in
set_option maxHeartbeats 800000 in
theorem tree_list0 {w : World} {px ps kind : Nat} {S : St} {Y : Nat → Prop} (h : StOn w ps S Y) (hi : Inv S) (hT : TreeOn w px ps kind 0) {j c : FuncId} {jn : Jn} (hk : KindOk kind j c jn) :
    Calls Tryz.prog 120 #[PV px] w fun e w' => e = .returned (.slice none 0 0) ∧ Below w.heap.size w w' := by
  have hn := tree_none hT
  have hs := bulk_list0 (h.below ((Below.refl _ w).drew)) hi hk 0
  obtain ⟨I, hIi, hIo⟩ := tree_class px ps kind 0
  have hy0 := fun x : Keeps I => hIi _ x.ok
  simp only [TreeOn] at hy0
  have m0 : ∀ x : Keeps I, x.to.cell? ⟨px, 0, none⟩ = some (PV ps) := fun x => by rw [cell_of_block (hy0 x)]; rfl
  have m1 : ∀ x : Keeps I, x.to.cell? ⟨px, 1, none⟩ = some (.int .i64 kind) := fun x => by rw [cell_of_block (hy0 x)]; rfl
  have m2 : ∀ x : Keeps I, x.to.cell? ⟨px, 2, none⟩ = some (.int .i64 0) := fun x => by rw [cell_of_block (hy0 x)]; rfl
  have m3 : ∀ x : Keeps I, x.to.cell? ⟨px, 3, none⟩ = some (.iface 247 (binV ps kind)) := fun x => by rw [cell_of_block (hy0 x)]; rfl
  have m4 : ∀ x : Keeps I, x.to.cell? ⟨px, 4, none⟩ = some (.int .u64 0) := fun x => by rw [cell_of_block (hy0 x)]; rfl
  have hI0 : I w.drew := hIo _ hT
  have HG := Lib.hid (And.intro hn (And.intro hs (And.intro hT hIo)))
  clear hn hs h hi hT hIi hIo hy0 hk
  go_enter Tryz.func120, Tryz.ntmps120
  go_wp2_with fail
  refine HG.out.1.mono ?_
  rintro e w1 ⟨rfl, rfl⟩
  go_wp2_with fail
  refine wp_region_plan I (.take 0 (.take 1 (.take 2 (.take 3 (.take 4 (.take 5 (.take 6 (.take 7 (.take 8 (.take 9 (.take 10 (.take 11 (.take 12 (.take 13 (.take 14 (.take 15 (.go 16 (.take 17 (.take 18 (.take 19 (.go 20 (.go 21 .nil)))))))))))))))))))))) (by kernel_rfl) (by kernel_rfl) hI0 ?_
  refine' plan_take _ (by rfl) _ (by rfl) ?_ ?_
  rotate_left
  · rintro _ ⟨x, rfl⟩
    have hxm0 := m0 x
    have hxm1 := m1 x
    have hxm2 := m2 x
    have hxm3 := m3 x
    have hxm4 := m4 x
    go_simp
    try with_reducible rfl
  try simp only [Act.put, List.setIfInBounds_toArray, List.set_cons_zero, List.set_cons_succ]
  refine' plan_take _ (by rfl) _ (by rfl) ?_ ?_
  rotate_left
  · rintro _ ⟨x, rfl⟩
    have hxm0 := m0 x
    have hxm1 := m1 x
    have hxm2 := m2 x
    have hxm3 := m3 x
    have hxm4 := m4 x
    go_simp
    try with_reducible rfl
  try simp only [Act.put, List.setIfInBounds_toArray, List.set_cons_zero, List.set_cons_succ]
  refine' plan_take _ (by rfl) _ (by rfl) ?_ ?_
  rotate_left
  · rintro _ ⟨x, rfl⟩
    have hxm0 := m0 x
    have hxm1 := m1 x
    have hxm2 := m2 x
    have hxm3 := m3 x
    have hxm4 := m4 x
    go_simp
    try with_reducible rfl
  try simp only [Act.put, List.setIfInBounds_toArray, List.set_cons_zero, List.set_cons_succ]
  refine' plan_take _ (by rfl) _ (by rfl) ?_ ?_
  rotate_left
  · rintro _ ⟨x, rfl⟩
    have hxm0 := m0 x
    have hxm1 := m1 x
    have hxm2 := m2 x
    have hxm3 := m3 x
    have hxm4 := m4 x
    go_simp
    try with_reducible rfl
  try simp only [Act.put, List.setIfInBounds_toArray, List.set_cons_zero, List.set_cons_succ]
  refine' plan_take _ (by rfl) _ (by rfl) ?_ ?_
  rotate_left
  · rintro _ ⟨x, rfl⟩
    have hxm0 := m0 x
    have hxm1 := m1 x
    have hxm2 := m2 x
    have hxm3 := m3 x
    have hxm4 := m4 x
    go_simp
    try with_reducible rfl
  try simp only [Act.put, List.setIfInBounds_toArray, List.set_cons_zero, List.set_cons_succ]
  refine' plan_take _ (by rfl) _ (by rfl) ?_ ?_
  rotate_left
  · rintro _ ⟨x, rfl⟩
    have hxm0 := m0 x
    have hxm1 := m1 x
    have hxm2 := m2 x
    have hxm3 := m3 x
    have hxm4 := m4 x
    go_simp
    try with_reducible rfl
  try simp only [Act.put, List.setIfInBounds_toArray, List.set_cons_zero, List.set_cons_succ]
  refine' plan_take _ (by rfl) _ (by rfl) ?_ ?_
  rotate_left
  · rintro _ ⟨x, rfl⟩
    have hxm0 := m0 x
    have hxm1 := m1 x
    have hxm2 := m2 x
    have hxm3 := m3 x
    have hxm4 := m4 x
    go_simp
    try with_reducible rfl
  try simp only [Act.put, List.setIfInBounds_toArray, List.set_cons_zero, List.set_cons_succ]
  refine' plan_take _ (by rfl) _ (by rfl) ?_ ?_
  rotate_left
  · rintro _ ⟨x, rfl⟩
    have hxm0 := m0 x
    have hxm1 := m1 x
    have hxm2 := m2 x
    have hxm3 := m3 x
    have hxm4 := m4 x
    go_simp
    try with_reducible rfl
  try simp only [Act.put, List.setIfInBounds_toArray, List.set_cons_zero, List.set_cons_succ]
  refine' plan_take _ (by rfl) _ (by rfl) ?_ ?_
  rotate_left
  · rintro _ ⟨x, rfl⟩
    have hxm0 := m0 x
    have hxm1 := m1 x
    have hxm2 := m2 x
    have hxm3 := m3 x
    have hxm4 := m4 x
    go_simp
    try with_reducible rfl
  try simp only [Act.put, List.setIfInBounds_toArray, List.set_cons_zero, List.set_cons_succ]
  refine' plan_take _ (by rfl) _ (by rfl) ?_ ?_
  rotate_left
  · rintro _ ⟨x, rfl⟩
    have hxm0 := m0 x
    have hxm1 := m1 x
    have hxm2 := m2 x
    have hxm3 := m3 x
    have hxm4 := m4 x
    go_simp
    try with_reducible rfl
  try simp only [Act.put, List.setIfInBounds_toArray, List.set_cons_zero, List.set_cons_succ]
  refine' plan_take _ (by rfl) _ (by rfl) ?_ ?_
  rotate_left
  · rintro _ ⟨x, rfl⟩
    have hxm0 := m0 x
    have hxm1 := m1 x
    have hxm2 := m2 x
    have hxm3 := m3 x
    have hxm4 := m4 x
    go_simp
    try with_reducible rfl
  try simp only [Act.put, List.setIfInBounds_toArray, List.set_cons_zero, List.set_cons_succ]
  refine' plan_take _ (by rfl) _ (by rfl) ?_ ?_
  rotate_left
  · rintro _ ⟨x, rfl⟩
    have hxm0 := m0 x
    have hxm1 := m1 x
    have hxm2 := m2 x
    have hxm3 := m3 x
    have hxm4 := m4 x
    go_simp
    try with_reducible rfl
  try simp only [Act.put, List.setIfInBounds_toArray, List.set_cons_zero, List.set_cons_succ]
  refine' plan_take _ (by rfl) _ (by rfl) ?_ ?_
  rotate_left
  · rintro _ ⟨x, rfl⟩
    have hxm0 := m0 x
    have hxm1 := m1 x
    have hxm2 := m2 x
    have hxm3 := m3 x
    have hxm4 := m4 x
    go_simp
    try with_reducible rfl
  try simp only [Act.put, List.setIfInBounds_toArray, List.set_cons_zero, List.set_cons_succ]
  refine' plan_take _ (by rfl) _ (by rfl) ?_ ?_
  rotate_left
  · rintro _ ⟨x, rfl⟩
    have hxm0 := m0 x
    have hxm1 := m1 x
    have hxm2 := m2 x
    have hxm3 := m3 x
    have hxm4 := m4 x
    go_simp
    try with_reducible rfl
  try simp only [Act.put, List.setIfInBounds_toArray, List.set_cons_zero, List.set_cons_succ]
  refine' plan_take _ (by rfl) _ (by rfl) ?_ ?_
  rotate_left
  · rintro _ ⟨x, rfl⟩
    have hxm0 := m0 x
    have hxm1 := m1 x
    have hxm2 := m2 x
    have hxm3 := m3 x
    have hxm4 := m4 x
    go_simp
    try with_reducible rfl
  try simp only [Act.put, List.setIfInBounds_toArray, List.set_cons_zero, List.set_cons_succ]
  refine' plan_take _ (by rfl) _ (by rfl) ?_ ?_
  rotate_left
  · rintro _ ⟨x, rfl⟩
    have hxm0 := m0 x
    have hxm1 := m1 x
    have hxm2 := m2 x
    have hxm3 := m3 x
    have hxm4 := m4 x
    go_simp
    try with_reducible rfl
  try simp only [Act.put, List.setIfInBounds_toArray, List.set_cons_zero, List.set_cons_succ]
  refine plan_do _ (by rfl) (by rfl) (fun K hK => ?_)
  go_simp
  refine HG.out.2.1.mono ?_
  rintro e w2 ⟨rfl, hb2⟩
  have T2 := TreeOn.below (w := w.drew) HG.out.2.2.1 hb2
  have B2 := Lib.hid (And.intro T2 ((Below.refl w.heap.size w).drew.trans hb2))
  clear T2 hb2
  try go_simp
  refine hK.out _ _ (HG.out.2.2.2 _ B2.out.1) ?_
  clear hK K
  try simp only [Act.put, List.setIfInBounds_toArray, List.set_cons_zero, List.set_cons_succ]
  refine' plan_take _ (by rfl) _ (by rfl) ?_ ?_
  rotate_left
  · rintro _ ⟨x, rfl⟩
    go_simp
    try with_reducible rfl
  try simp only [Act.put, List.setIfInBounds_toArray, List.set_cons_zero, List.set_cons_succ]
  refine' plan_take _ (by rfl) _ (by rfl) ?_ ?_
  rotate_left
  · rintro _ ⟨x, rfl⟩
    go_simp
    try with_reducible rfl
  try simp only [Act.put, List.setIfInBounds_toArray, List.set_cons_zero, List.set_cons_succ]
  refine' plan_take _ (by rfl) _ (by rfl) ?_ ?_
  rotate_left
  · rintro _ ⟨x, rfl⟩
    go_simp
    try with_reducible rfl
  try simp only [Act.put, List.setIfInBounds_toArray, List.set_cons_zero, List.set_cons_succ]
  refine plan_do _ (by rfl) (by rfl) (fun K hK => ?_)
  go_simp
  try go_simp
  refine hK.out _ _ (HG.out.2.2.2 _ B2.out.1) ?_
  clear hK K
  try simp only [Act.put, List.setIfInBounds_toArray, List.set_cons_zero, List.set_cons_succ]
  refine plan_do _ (by rfl) (by rfl) (fun K hK => ?_)
  go_simp
  try go_simp
  refine hK.out _ _ (HG.out.2.2.2 _ B2.out.1) ?_
  clear hK K
  try simp only [Act.put, List.setIfInBounds_toArray, List.set_cons_zero, List.set_cons_succ]
  refine plan_nil ?_
  go_wp2_with fail
  go_ret
  exact ⟨rfl, B2.out.2⟩

set_option maxRecDepth 100000 in
set_option maxHeartbeats 400000 in
theorem tree_gone0 (px k v : Nat) (w : World) :
    Calls Tryz.prog 85 #[PV px, itV k v, .bool false] w fun e w' => e = .returned (.string ⟨#[]⟩) ∧ Below w.heap.size w w' := by
  simp only [itV]
  go_enter Tryz.func85, Tryz.ntmps85
  go_wp2_with fail
  go_ret
  exact ⟨rfl, (Below.refl _ w).alloc (Nat.le_refl _) _⟩

/-- a pair's blobs, where all is well -/
def Lf.itemsM (S : St) (a b : List UInt8) : Option ((Nat × Nat) × St) :=
  if (putBlob S a).1.2 ≠ 0 ∨ (putBlob (putBlob S a).2 b).1.2 ≠ 0 then none
  else some (((putBlob S a).1.1, (putBlob (putBlob S a).2 b).1.1), (putBlob (putBlob S a).2 b).2)
/-- it may be made -/
def ItemsOk (S : St) (a b : List UInt8) : Prop := a.length ≤ 1000 ∧ b.length ≤ 1000 ∧ MkOk S (many a.length) ∧ MkOk (putBlob S a).2 (many b.length)
theorem putBlob_inv {S : St} {a : List UInt8} (hm : MkOk S (many a.length)) (hi : Inv S) : Inv (putBlob S a).2 := by
  have h2 := hm.2
  unfold putBlob
  split
  · exact hi
  · split
    · rename_i e
      rw [e] at h2
      exact (putWords_inv _ _ _ 0 h2).1
    · rename_i e
      rw [e] at h2
      exact h2
theorem putBlob_lt {S : St} (hw : TabWF S.t) (a : List UInt8) : (putBlob S a).1.1 < 18446744073709551616 := by
  have := make_lt hw (many a.length)
  unfold putBlob
  split
  · simp
  · split
    · rename_i e
      rw [e] at this
      exact this
    · simp
theorem itemsM_some {S S' : St} {a b : List UInt8} {p : Nat × Nat} (h : itemsM S a b = some (p, S')) : (putBlob S a).1 = (p.1, 0) ∧ (putBlob (putBlob S a).2 b).1 = (p.2, 0) ∧ S' = (putBlob (putBlob S a).2 b).2 := by
  unfold itemsM at h
  split at h
  · cases h
  · rename_i hc
    simp only [not_or, Decidable.not_not] at hc
    have h := Option.some.inj h
    injection h with e1 e2
    subst e1 e2
    exact ⟨Prod.ext rfl hc.1, Prod.ext rfl hc.2, rfl⟩

/-- where the walk of item stands -/
structure ItAt (w W : World) (px ps kind root : Nat) (a b : List UInt8) (S : St) (Y : Nat → Prop) (q0 q1 : Value) : Prop where
  t : TreeOn W px ps kind root
  y : W.heap[w.heap.size]? = some (.cells #[SV a, SV b] 50)
  q : W.heap[w.heap.size + 1]? = some (.cells #[q0, q1] 126)
  st : StOn W ps S (fun k => Y k ∨ (w.heap.size ≤ k ∧ k < w.heap.size + 2))
  k : Keep Y w W
theorem ItAt.drew {w W : World} {px ps kind root : Nat} {a b : List UInt8} {S : St} {Y : Nat → Prop} {q0 q1 : Value} (h : ItAt w W px ps kind root a b S Y q0 q1) : ItAt w W.drew px ps kind root a b S Y q0 q1 :=
  ⟨h.t, h.y, h.q, h.st.below (Below.refl _ _).drew, h.k.trans (Keep.drewN Y W 1)⟩
theorem ItAt.call {w W W' : World} {px ps kind root : Nat} {a b : List UInt8} {S S' : St} {Y : Nat → Prop} {q0 q1 : Value} (h : ItAt w W px ps kind root a b S Y q0 q1) (hpx : Y px) (hs : StOn W' ps S' (fun k => Y k ∨ (w.heap.size ≤ k ∧ k < w.heap.size + 2))) (hk : Keep (fun k => Y k ∨ (w.heap.size ≤ k ∧ k < w.heap.size + 2)) W W') : ItAt w W' px ps kind root a b S' Y q0 q1 :=
  ⟨h.t.keep hk (Or.inl hpx), (hk.block _ (Or.inr ⟨by omega, by omega⟩)).trans h.y, (hk.block _ (Or.inr ⟨by omega, by omega⟩)).trans h.q, hs, h.k.trans (hk.mono fun _ hk => Or.inl hk)⟩
theorem ItAt.write {w W W' : World} {px ps kind root : Nat} {a b : List UInt8} {S : St} {Y : Nat → Prop} {q0 q1 r0 r1 : Value} (h : ItAt w W px ps kind root a b S Y q0 q1) (hpx : Y px) (hY : ∀ k, Y k → k < w.heap.size) (hz : W'.heap.size = W.heap.size) (ho : W'.os = W.os ∧ W'.tape = W.tape ∧ W'.output = W.output) (hw : ∀ k, k ≠ w.heap.size + 1 → W'.heap[k]? = W.heap[k]?) (hq : W'.heap[w.heap.size + 1]? = some (.cells #[r0, r1] 126)) : ItAt w W' px ps kind root a b S Y r0 r1 := by
  have h1 := hY px hpx
  refine ⟨(hw px (by omega)).trans h.t, (hw _ (by omega)).trans h.y, hq, h.st.write (Or.inr ⟨by omega, by omega⟩) h.q ⟨by decide, by decide⟩ (by simp) (by omega) fun k _ hk => hw k hk, ?_⟩
  refine h.k.trans ⟨ho.1, ho.2.1, ho.2.2, by omega, fun k hk => hw k ?_⟩
  have := hY k hk
  omega

set_option maxRecDepth 100000 in
set_option maxHeartbeats 3200000 in
theorem tree_item {w : World} {px ps kind root : Nat} {S S' : St} {Y : Nat → Prop} (h : StOn w ps S Y) (hi : Inv S) (hT : TreeOn w px ps kind root) (hpx : Y px) (a b : List UInt8) (hm : ItemsOk S a b) {p : Nat × Nat} (hp : itemsM S a b = some (p, S')) :
    Calls Tryz.prog 84 #[PV px, prV (a, b)] w fun e w' => e = .returned (.tuple #[itV p.1 p.2, .int .i64 0]) ∧ StOn w' ps S' Y ∧ Keep Y w w' ∧ Inv S' ∧ p.1 < 18446744073709551616 ∧ p.2 < 18446744073709551616 := by
  obtain ⟨e1, e2, e3⟩ := itemsM_some hp
  have hi1 := putBlob_inv hm.2.2.1 hi
  have hi2 := putBlob_inv hm.2.2.2 hi1
  have l1 := putBlob_lt h.tabwf a
  have hp1 := fun W Z (hW : StOn W ps S Z) => blob_put hW hi a hm.1 hm.2.2.1
  have hp2 := fun W Z (hW : StOn W ps (putBlob S a).2 Z) => And.intro (blob_put hW hi1 b hm.2.1 hm.2.2.2) (putBlob_lt hW.tabwf b)
  rw [e1] at hp1 l1
  rw [e2] at hp2
  rw [← e3] at hi2 hp2
  generalize (putBlob S a).2 = S1 at *
  obtain ⟨p1, p2⟩ := p
  simp only [prV, itV] at hp1 hp2 l1 ⊢
  have B1 := (Below.refl w.heap.size w).alloc (Nat.le_refl _) (.cells #[SV a, SV b] 50)
  have y1 := heap_alloc_new w (.cells #[SV a, SV b] 50)
  have z1 : (w.alloc (.cells #[SV a, SV b] 50)).heap.size = w.heap.size + 1 := by simp
  generalize hw1 : w.alloc (.cells #[SV a, SV b] 50) = w1 at *
  have A2 := (Below.refl w1.heap.size w1).alloc (Nat.le_refl _) (.cells #[.int .u64 0, .int .u64 0] 126)
  have B2 := B1.trans (A2.mono B1.size)
  have y2 := (A2.block w.heap.size (by omega)).trans y1
  have q2 := heap_alloc_new w1 (.cells #[.int .u64 0, .int .u64 0] 126)
  have z2 : (w1.alloc (.cells #[.int .u64 0, .int .u64 0] 126)).heap.size = w.heap.size + 2 := by simp [z1]
  rw [z1] at q2
  subst hw1
  have hY := h.yl
  have hA : ItAt w ((w.alloc (.cells #[SV a, SV b] 50)).alloc (.cells #[.int .u64 0, .int .u64 0] 126)) px ps kind root a b S Y (.int .u64 0) (.int .u64 0) := ⟨hT.below B2, y2, q2, by have := h.wide B2; rwa [z2] at this, Keep.of_below B2 hY⟩
  have HG := Lib.hid (And.intro hp1 (And.intro hp2 (And.intro hpx hY)))
  have HL := Lib.hid (And.intro hi2 l1)
  have HA := Lib.hid hA
  clear hp1 hp2 hA B1 B2 y1 y2 q2 A2 z1 z2 hY h hi hi1 hi2 l1 hm hp e1 e2 e3 hT
  go_enter Tryz.func84, Tryz.ntmps84
  go_wp2_with fail
  generalize ((w.alloc (.cells #[SV a, SV b] 50)).alloc (.cells #[.int .u64 0, .int .u64 0] 126)) = W0 at *
  obtain ⟨I, hIi, hIo⟩ := two_class (fun w' => TreeOn w' px ps kind root) (fun w' => w'.heap[w.heap.size]? = some (.cells #[SV a, SV b] 50))
  have hy0 := fun x : Keeps I => (hIi _ x.ok).1
  have hz0 := fun x : Keeps I => (hIi _ x.ok).2
  simp only [TreeOn] at hy0
  have m0 : ∀ x : Keeps I, x.to.cell? ⟨px, 0, none⟩ = some (PV ps) := fun x => by rw [cell_of_block (hy0 x)]; rfl
  have m1 : ∀ x : Keeps I, x.to.cell? ⟨px, 1, none⟩ = some (.int .i64 kind) := fun x => by rw [cell_of_block (hy0 x)]; rfl
  have m2 : ∀ x : Keeps I, x.to.cell? ⟨px, 2, none⟩ = some (.int .i64 0) := fun x => by rw [cell_of_block (hy0 x)]; rfl
  have m3 : ∀ x : Keeps I, x.to.cell? ⟨px, 3, none⟩ = some (.iface 247 (binV ps kind)) := fun x => by rw [cell_of_block (hy0 x)]; rfl
  have m4 : ∀ x : Keeps I, x.to.cell? ⟨px, 4, none⟩ = some (.int .u64 root) := fun x => by rw [cell_of_block (hy0 x)]; rfl
  have n0 : ∀ x : Keeps I, x.to.cell? ⟨w.heap.size, 0, none⟩ = some (SV a) := fun x => by rw [cell_of_block (hz0 x)]; rfl
  have n1 : ∀ x : Keeps I, x.to.cell? ⟨w.heap.size, 1, none⟩ = some (SV b) := fun x => by rw [cell_of_block (hz0 x)]; rfl
  have HI := Lib.hid hIo
  clear hIi hIo hy0 hz0
  have hI0 : I W0.drew := HI.out _ HA.out.drew.t HA.out.drew.y
  refine wp_region_plan I (.take 0 (.take 1 (.take 2 (.take 3 (.take 4 (.take 5 (.go 6 (.take 7 (.take 8 (.take 9 (.take 10 (.go 11 (.go 12 .nil))))))))))))) (by kernel_rfl) (by kernel_rfl) hI0 ?_
  clear hI0
  refine' plan_take _ (by rfl) _ (by rfl) ?_ ?_
  rotate_left
  · rintro _ ⟨x, rfl⟩
    have hxm0 := m0 x
    have hxn0 := n0 x
    go_simp
    try with_reducible rfl
  try simp only [Act.put, List.setIfInBounds_toArray, List.set_cons_zero, List.set_cons_succ]
  refine' plan_take _ (by rfl) _ (by rfl) ?_ ?_
  rotate_left
  · rintro _ ⟨x, rfl⟩
    have hxm0 := m0 x
    have hxn0 := n0 x
    go_simp
    try with_reducible rfl
  try simp only [Act.put, List.setIfInBounds_toArray, List.set_cons_zero, List.set_cons_succ]
  refine' plan_take _ (by rfl) _ (by rfl) ?_ ?_
  rotate_left
  · rintro _ ⟨x, rfl⟩
    have hxm0 := m0 x
    have hxn0 := n0 x
    go_simp
    try with_reducible rfl
  try simp only [Act.put, List.setIfInBounds_toArray, List.set_cons_zero, List.set_cons_succ]
  refine' plan_take _ (by rfl) _ (by rfl) ?_ ?_
  rotate_left
  · rintro _ ⟨x, rfl⟩
    have hxm0 := m0 x
    have hxn0 := n0 x
    go_simp
    try with_reducible rfl
  try simp only [Act.put, List.setIfInBounds_toArray, List.set_cons_zero, List.set_cons_succ]
  refine' plan_take _ (by rfl) _ (by rfl) ?_ ?_
  rotate_left
  · rintro _ ⟨x, rfl⟩
    have hxm0 := m0 x
    have hxn0 := n0 x
    go_simp
    try with_reducible rfl
  try simp only [Act.put, List.setIfInBounds_toArray, List.set_cons_zero, List.set_cons_succ]
  refine' plan_take _ (by rfl) _ (by rfl) ?_ ?_
  rotate_left
  · rintro _ ⟨x, rfl⟩
    have hxm0 := m0 x
    have hxn0 := n0 x
    go_simp
    try with_reducible rfl
  try simp only [Act.put, List.setIfInBounds_toArray, List.set_cons_zero, List.set_cons_succ]
  refine plan_do _ (by rfl) (by rfl) (fun K hK => ?_)
  go_simp
  refine (HG.out.1 _ _ HA.out.drew.st).mono ?_
  rintro e w3 ⟨rfl, h3, k3⟩
  have HAc := Lib.hid (HA.out.drew.call HG.out.2.2.1 h3 k3)
  clear h3 k3
  have q := HAc.out.q
  have c0 : (w3).cell? ⟨(w.heap.size + 1), 0, none⟩ = some (.int .u64 0) := by rw [cell_of_block q]; rfl
  have c1 : (w3).cell? ⟨(w.heap.size + 1), 1, none⟩ = some (.int .u64 0) := by rw [cell_of_block q]; rfl
  have f0 : (w3).frozen? ⟨(w.heap.size + 1), 0, none⟩ = false := frozen_of_block q
  have f1 : (w3).frozen? ⟨(w.heap.size + 1), 1, none⟩ = false := frozen_of_block q
  clear q
  try go_simp
  refine hK.out _ _ (HI.out _ HAc.out.t HAc.out.y) ?_
  clear hK K
  try simp only [Act.put, List.setIfInBounds_toArray, List.set_cons_zero, List.set_cons_succ]
  refine' plan_take _ (by rfl) _ (by rfl) ?_ ?_
  rotate_left
  · rintro _ ⟨x, rfl⟩
    go_simp
    try with_reducible rfl
  try simp only [Act.put, List.setIfInBounds_toArray, List.set_cons_zero, List.set_cons_succ]
  refine' plan_take _ (by rfl) _ (by rfl) ?_ ?_
  rotate_left
  · rintro _ ⟨x, rfl⟩
    go_simp
    try with_reducible rfl
  try simp only [Act.put, List.setIfInBounds_toArray, List.set_cons_zero, List.set_cons_succ]
  refine' plan_take _ (by rfl) _ (by rfl) ?_ ?_
  rotate_left
  · rintro _ ⟨x, rfl⟩
    go_simp
    try with_reducible rfl
  try simp only [Act.put, List.setIfInBounds_toArray, List.set_cons_zero, List.set_cons_succ]
  refine' plan_take _ (by rfl) _ (by rfl) ?_ ?_
  rotate_left
  · rintro _ ⟨x, rfl⟩
    go_simp
    try with_reducible rfl
  try simp only [Act.put, List.setIfInBounds_toArray, List.set_cons_zero, List.set_cons_succ]
  refine plan_do _ (by rfl) (by rfl) (fun K hK => ?_)
  go_simp
  have HAs := Lib.hid (HAc.out.write (W' := w3.setCell ⟨w.heap.size + 1, 0, none⟩ (.int .u64 p1)) HG.out.2.2.1 HG.out.2.2.2 (by simp) ⟨rfl, rfl, rfl⟩ (fun k hk => heap_setCell_ne hk) (heap_setCell HAc.out.q))
  clear c0 c1 f0 f1
  generalize w3.setCell ⟨w.heap.size + 1, 0, none⟩ (.int .u64 p1) = w4 at *
  try go_simp
  refine hK.out _ _ (HI.out _ HAs.out.t HAs.out.y) ?_
  clear hK K
  try simp only [Act.put, List.setIfInBounds_toArray, List.set_cons_zero, List.set_cons_succ]
  refine plan_do _ (by rfl) (by rfl) (fun K hK => ?_)
  go_simp
  try go_simp
  refine hK.out _ _ (HI.out _ HAs.out.t HAs.out.y) ?_
  clear hK K
  try simp only [Act.put, List.setIfInBounds_toArray, List.set_cons_zero, List.set_cons_succ]
  refine plan_nil ?_
  go_wp2_with fail
  have hI0 : I w4.drew := HI.out _ HAs.out.drew.t HAs.out.drew.y
  refine wp_region_plan I (.take 0 (.take 1 (.take 2 (.take 3 (.take 4 (.take 5 (.go 6 (.take 7 (.take 8 (.take 9 (.take 10 (.go 11 (.go 12 .nil))))))))))))) (by kernel_rfl) (by kernel_rfl) hI0 ?_
  clear hI0
  refine' plan_take _ (by rfl) _ (by rfl) ?_ ?_
  rotate_left
  · rintro _ ⟨x, rfl⟩
    have hxm0 := m0 x
    have hxn1 := n1 x
    go_simp
    try with_reducible rfl
  try simp only [Act.put, List.setIfInBounds_toArray, List.set_cons_zero, List.set_cons_succ]
  refine' plan_take _ (by rfl) _ (by rfl) ?_ ?_
  rotate_left
  · rintro _ ⟨x, rfl⟩
    have hxm0 := m0 x
    have hxn1 := n1 x
    go_simp
    try with_reducible rfl
  try simp only [Act.put, List.setIfInBounds_toArray, List.set_cons_zero, List.set_cons_succ]
  refine' plan_take _ (by rfl) _ (by rfl) ?_ ?_
  rotate_left
  · rintro _ ⟨x, rfl⟩
    have hxm0 := m0 x
    have hxn1 := n1 x
    go_simp
    try with_reducible rfl
  try simp only [Act.put, List.setIfInBounds_toArray, List.set_cons_zero, List.set_cons_succ]
  refine' plan_take _ (by rfl) _ (by rfl) ?_ ?_
  rotate_left
  · rintro _ ⟨x, rfl⟩
    have hxm0 := m0 x
    have hxn1 := n1 x
    go_simp
    try with_reducible rfl
  try simp only [Act.put, List.setIfInBounds_toArray, List.set_cons_zero, List.set_cons_succ]
  refine' plan_take _ (by rfl) _ (by rfl) ?_ ?_
  rotate_left
  · rintro _ ⟨x, rfl⟩
    have hxm0 := m0 x
    have hxn1 := n1 x
    go_simp
    try with_reducible rfl
  try simp only [Act.put, List.setIfInBounds_toArray, List.set_cons_zero, List.set_cons_succ]
  refine' plan_take _ (by rfl) _ (by rfl) ?_ ?_
  rotate_left
  · rintro _ ⟨x, rfl⟩
    have hxm0 := m0 x
    have hxn1 := n1 x
    go_simp
    try with_reducible rfl
  try simp only [Act.put, List.setIfInBounds_toArray, List.set_cons_zero, List.set_cons_succ]
  refine plan_do _ (by rfl) (by rfl) (fun K hK => ?_)
  go_simp
  obtain ⟨hb2, l2⟩ := HG.out.2.1 _ _ HAs.out.drew.st
  refine hb2.mono ?_
  rintro e w5 ⟨rfl, h3, k3⟩
  have HAsc := Lib.hid (HAs.out.drew.call HG.out.2.2.1 h3 k3)
  have Hl2 := Lib.hid l2
  clear h3 k3 hb2 l2
  have q := HAsc.out.q
  have c0 : (w5).cell? ⟨(w.heap.size + 1), 0, none⟩ = some (.int .u64 p1) := by rw [cell_of_block q]; rfl
  have c1 : (w5).cell? ⟨(w.heap.size + 1), 1, none⟩ = some (.int .u64 0) := by rw [cell_of_block q]; rfl
  have f0 : (w5).frozen? ⟨(w.heap.size + 1), 0, none⟩ = false := frozen_of_block q
  have f1 : (w5).frozen? ⟨(w.heap.size + 1), 1, none⟩ = false := frozen_of_block q
  clear q
  try go_simp
  refine hK.out _ _ (HI.out _ HAsc.out.t HAsc.out.y) ?_
  clear hK K
  try simp only [Act.put, List.setIfInBounds_toArray, List.set_cons_zero, List.set_cons_succ]
  refine' plan_take _ (by rfl) _ (by rfl) ?_ ?_
  rotate_left
  · rintro _ ⟨x, rfl⟩
    go_simp
    try with_reducible rfl
  try simp only [Act.put, List.setIfInBounds_toArray, List.set_cons_zero, List.set_cons_succ]
  refine' plan_take _ (by rfl) _ (by rfl) ?_ ?_
  rotate_left
  · rintro _ ⟨x, rfl⟩
    go_simp
    try with_reducible rfl
  try simp only [Act.put, List.setIfInBounds_toArray, List.set_cons_zero, List.set_cons_succ]
  refine' plan_take _ (by rfl) _ (by rfl) ?_ ?_
  rotate_left
  · rintro _ ⟨x, rfl⟩
    go_simp
    try with_reducible rfl
  try simp only [Act.put, List.setIfInBounds_toArray, List.set_cons_zero, List.set_cons_succ]
  refine' plan_take _ (by rfl) _ (by rfl) ?_ ?_
  rotate_left
  · rintro _ ⟨x, rfl⟩
    go_simp
    try with_reducible rfl
  try simp only [Act.put, List.setIfInBounds_toArray, List.set_cons_zero, List.set_cons_succ]
  refine plan_do _ (by rfl) (by rfl) (fun K hK => ?_)
  go_simp
  have HAss := Lib.hid (HAsc.out.write (W' := w5.setCell ⟨w.heap.size + 1, 1, none⟩ (.int .u64 p2)) HG.out.2.2.1 HG.out.2.2.2 (by simp) ⟨rfl, rfl, rfl⟩ (fun k hk => heap_setCell_ne hk) (heap_setCell HAsc.out.q))
  clear c0 c1 f0 f1
  generalize w5.setCell ⟨w.heap.size + 1, 1, none⟩ (.int .u64 p2) = w6 at *
  try go_simp
  refine hK.out _ _ (HI.out _ HAss.out.t HAss.out.y) ?_
  clear hK K
  try simp only [Act.put, List.setIfInBounds_toArray, List.set_cons_zero, List.set_cons_succ]
  refine plan_do _ (by rfl) (by rfl) (fun K hK => ?_)
  go_simp
  try go_simp
  refine hK.out _ _ (HI.out _ HAss.out.t HAss.out.y) ?_
  clear hK K
  try simp only [Act.put, List.setIfInBounds_toArray, List.set_cons_zero, List.set_cons_succ]
  refine plan_nil ?_
  have q := HAss.out.q
  have c0 : (w6).cell? ⟨(w.heap.size + 1), 0, none⟩ = some (.int .u64 p1) := by rw [cell_of_block q]; rfl
  have c1 : (w6).cell? ⟨(w.heap.size + 1), 1, none⟩ = some (.int .u64 p2) := by rw [cell_of_block q]; rfl
  have f0 : (w6).frozen? ⟨(w.heap.size + 1), 0, none⟩ = false := frozen_of_block q
  have f1 : (w6).frozen? ⟨(w.heap.size + 1), 1, none⟩ = false := frozen_of_block q
  have HF := Lib.hid (HAss.out.write (W' := ((w6.setCell ⟨(w.heap.size + 1), 0, none⟩ (.int .u64 p1)).setCell ⟨(w.heap.size + 1), 1, none⟩ (.int .u64 p2))) HG.out.2.2.1 HG.out.2.2.2 (by simp) ⟨rfl, rfl, rfl⟩ (fun k hk => st2_other hk _ _) (st2_heap q _ _))
  clear q
  go_wp2_with fail
  generalize ((w6.setCell ⟨(w.heap.size + 1), 0, none⟩ (.int .u64 p1)).setCell ⟨(w.heap.size + 1), 1, none⟩ (.int .u64 p2)) = w7 at *
  have q := HF.out.q
  have e0 : (w7).cell? ⟨(w.heap.size + 1), 0, none⟩ = some (.int .u64 p1) := by rw [cell_of_block q]; rfl
  have e1 : (w7).cell? ⟨(w.heap.size + 1), 1, none⟩ = some (.int .u64 p2) := by rw [cell_of_block q]; rfl
  exact bodyPost_ret (v := .tuple #[.agg #[.int .u64 p1, .int .u64 p2], .int .i64 0]) (by simp [results, Tryz.f84, go_sem, e0, e1]) rfl ⟨rfl, HF.out.st.mono fun k hk => Or.inl hk, HF.out.k, HL.out.1, HL.out.2, Hl2.out⟩
end Go.Proofs.YtoaabbnieakidaaGreatDoorR
