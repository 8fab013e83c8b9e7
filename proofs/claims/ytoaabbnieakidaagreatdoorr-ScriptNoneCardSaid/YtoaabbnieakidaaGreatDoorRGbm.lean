/- Trees of any kind: Delete of a key that is there: the walk. -/
import Derived.Test.YtoaabbnieakidaaGreatDoorRGbl
import Derived.Test.YtoaabbnieakidaaGreatDoorRGbf
import Derived.Test.YtoaabbnieakidaaGreatDoorRGbe
import Derived.Test.YtoaabbnieakidaaGreatDoorRGbb
namespace Go.Proofs.YtoaabbnieakidaaGreatDoorR
open Go.RowKit Go.BigFrame Go.Maps Go.WideMaps Lf

theorem meth_remove (f : Nat) (v : Value) (w : World) : (method (f + 1) 247 v "loft/backend.remove").run Tryz.prog w = .ok (360, v) w := by kernel_rfl
/-- where the walk of Delete stands behind the removal -/
structure DeAt (w W : World) (px ps kind root : Nat) (S : St) (Y : Nat → Prop) (b9 ik iv : Nat) : Prop where
  t : TreeOn W px ps kind root
  st : StOn W ps S Y
  k : Keep Y w W
  q : W.heap[b9]? = some (.cells #[.int .u64 ik, .int .u64 iv] 126)
  l : w.heap.size ≤ b9

set_option maxRecDepth 100000 in
set_option maxHeartbeats 12800000 in
theorem tree_delete {w : World} {px ps kind root : Nat} {S S1 : St} {Y : Nat → Prop} (h : StOn w ps S Y) (hi : Inv S) (hT : TreeOn w px ps kind root) (hpx : Y px) (hl : root < 18446744073709551616) {j c : FuncId} {jn : Jn} (hk : KindOk kind j c jn) (key : List UInt8) {F : Nat × Nat} (hF : downM S key (Lf.limit S) root 0 = some F) (hF0 : F.1 ≠ 0) (hF1 : F.1 < 18446744073709551616) {now ik iv : Nat} (hR : binDelM jn S root key = some ((now, ik, iv), S1)) (hik : ik < 18446744073709551616) (hiv : iv < 18446744073709551616) (hi1 : Inv S1) (hg : (getBlob S1 iv).2 ≠ 8) (hi2 : Inv (S1.drop ik).2) :
    Calls Tryz.prog 56 #[PV px, SV key] w fun e w' => e = .returned (.tuple #[SV (getBlob S1 iv).1, .bool true, .int .i64 0]) ∧ StOn w' ps ((S1.drop ik).2.drop iv).2 Y ∧ Keep (fun k => Y k ∧ k ≠ px) w w' ∧ TreeOn w' px ps kind now ∧ now < 18446744073709551616 := by
  have hn := tree_none hT
  have hfi := fun W (hW : Below w.heap.size w W) => bin_find (h.below hW) hi kind root hl key hF hF1
  have hfd : decide (F.1 ≠ 0) = true := decide_eq_true hF0
  rw [hfd] at hfi
  have hre := fun W Z (hW : StOn W ps S Z) => bin_remove hW hi hk root hl key hR
  have hgo := fun W Z (hW : StOn W ps S1 Z) (hT : TreeOn W px ps kind now) (hy : Z px) => tree_gone hW hi1 hT hy ik iv hik hiv hg hi2
  generalize (getNode S F.1).1.key = k0 at *
  generalize (getNode S F.1).1.val = k1 at *
  generalize (getBlob S1 iv).1 = tv at *
  simp only [itV] at hfi hre hgo ⊢
  have hY := h.yl
  obtain ⟨I, hIi, hIo⟩ := tree_class px ps kind root
  have hy0 := fun x : Keeps I => hIi _ x.ok
  simp only [TreeOn] at hy0
  have m0 : ∀ x : Keeps I, x.to.cell? ⟨px, 0, none⟩ = some (PV ps) := fun x => by rw [cell_of_block (hy0 x)]; rfl
  have m1 : ∀ x : Keeps I, x.to.cell? ⟨px, 1, none⟩ = some (.int .i64 kind) := fun x => by rw [cell_of_block (hy0 x)]; rfl
  have m2 : ∀ x : Keeps I, x.to.cell? ⟨px, 2, none⟩ = some (.int .i64 0) := fun x => by rw [cell_of_block (hy0 x)]; rfl
  have m3 : ∀ x : Keeps I, x.to.cell? ⟨px, 3, none⟩ = some (.iface 247 (binV ps kind)) := fun x => by rw [cell_of_block (hy0 x)]; rfl
  have m4 : ∀ x : Keeps I, x.to.cell? ⟨px, 4, none⟩ = some (.int .u64 root) := fun x => by rw [cell_of_block (hy0 x)]; rfl
  have hI0 : I w.drew := hIo _ (hT.below (Below.refl _ _).drew)
  have hme := meth_find
  have HI := Lib.hid hIo
  have HG := Lib.hid (And.intro hn (And.intro hfi (And.intro hre (And.intro hgo (And.intro hpx (And.intro hY (And.intro hT h)))))))
  clear hn hfi hre hgo hT hIi hIo hy0 h hi hi1 hi2 hg hk hR hF hF0 hF1 hfd hY hl
  go_enter Tryz.func56, Tryz.ntmps56
  go_wp2_with fail
  refine HG.out.1.mono ?_
  rintro e w1 ⟨rfl, rfl⟩
  go_wp2_with fail
  refine wp_region_plan I (.take 0 (.take 1 (.take 2 (.take 3 (.take 4 (.take 5 (.take 6 (.take 7 (.take 8 (.take 9 (.take 10 (.two 11 15 (.take 12 (.take 13 (.take 14 (.go 15 (.go 16 (.go 17 .nil)))))) (.go 11 (.take 12 (.take 13 (.take 14 (.go 16 (.go 17 .nil)))))))))))))))))) (by kernel_rfl) (by kernel_rfl) hI0 ?_
  refine' plan_take _ (by rfl) _ (by rfl) ?_ ?_
  rotate_left
  · rintro _ ⟨x, rfl⟩
    have hxm0 := m0 x
    have hxm1 := m1 x
    have hxm2 := m2 x
    have hxm3 := m3 x
    have hxm4 := m4 x
    go_simp
    try with_reducible rfl
  try simp only [Act.put, List.setIfInBounds_toArray, List.set_cons_zero, List.set_cons_succ]
  refine' plan_take _ (by rfl) _ (by rfl) ?_ ?_
  rotate_left
  · rintro _ ⟨x, rfl⟩
    have hxm0 := m0 x
    have hxm1 := m1 x
    have hxm2 := m2 x
    have hxm3 := m3 x
    have hxm4 := m4 x
    go_simp
    try with_reducible rfl
  try simp only [Act.put, List.setIfInBounds_toArray, List.set_cons_zero, List.set_cons_succ]
  refine' plan_take _ (by rfl) _ (by rfl) ?_ ?_
  rotate_left
  · rintro _ ⟨x, rfl⟩
    have hxm0 := m0 x
    have hxm1 := m1 x
    have hxm2 := m2 x
    have hxm3 := m3 x
    have hxm4 := m4 x
    go_simp
    try with_reducible rfl
  try simp only [Act.put, List.setIfInBounds_toArray, List.set_cons_zero, List.set_cons_succ]
  refine' plan_take _ (by rfl) _ (by rfl) ?_ ?_
  rotate_left
  · rintro _ ⟨x, rfl⟩
    have hxm0 := m0 x
    have hxm1 := m1 x
    have hxm2 := m2 x
    have hxm3 := m3 x
    have hxm4 := m4 x
    go_simp
    try with_reducible rfl
  try simp only [Act.put, List.setIfInBounds_toArray, List.set_cons_zero, List.set_cons_succ]
  refine' plan_take _ (by rfl) _ (by rfl) ?_ ?_
  rotate_left
  · rintro _ ⟨x, rfl⟩
    have hxm0 := m0 x
    have hxm1 := m1 x
    have hxm2 := m2 x
    have hxm3 := m3 x
    have hxm4 := m4 x
    go_simp
    try with_reducible rfl
  try simp only [Act.put, List.setIfInBounds_toArray, List.set_cons_zero, List.set_cons_succ]
  refine' plan_take _ (by rfl) _ (by rfl) ?_ ?_
  rotate_left
  · rintro _ ⟨x, rfl⟩
    have hxm0 := m0 x
    have hxm1 := m1 x
    have hxm2 := m2 x
    have hxm3 := m3 x
    have hxm4 := m4 x
    go_simp
    try with_reducible rfl
  try simp only [Act.put, List.setIfInBounds_toArray, List.set_cons_zero, List.set_cons_succ]
  refine' plan_take _ (by rfl) _ (by rfl) ?_ ?_
  rotate_left
  · rintro _ ⟨x, rfl⟩
    have hxm0 := m0 x
    have hxm1 := m1 x
    have hxm2 := m2 x
    have hxm3 := m3 x
    have hxm4 := m4 x
    go_simp
    try with_reducible rfl
  try simp only [Act.put, List.setIfInBounds_toArray, List.set_cons_zero, List.set_cons_succ]
  refine' plan_take _ (by rfl) _ (by rfl) ?_ ?_
  rotate_left
  · rintro _ ⟨x, rfl⟩
    have hxm0 := m0 x
    have hxm1 := m1 x
    have hxm2 := m2 x
    have hxm3 := m3 x
    have hxm4 := m4 x
    go_simp
    try with_reducible rfl
  try simp only [Act.put, List.setIfInBounds_toArray, List.set_cons_zero, List.set_cons_succ]
  refine' plan_take _ (by rfl) _ (by rfl) ?_ ?_
  rotate_left
  · rintro _ ⟨x, rfl⟩
    have hxm0 := m0 x
    have hxm1 := m1 x
    have hxm2 := m2 x
    have hxm3 := m3 x
    have hxm4 := m4 x
    go_simp
    try with_reducible rfl
  try simp only [Act.put, List.setIfInBounds_toArray, List.set_cons_zero, List.set_cons_succ]
  refine' plan_take _ (by rfl) _ (by rfl) ?_ ?_
  rotate_left
  · rintro _ ⟨x, rfl⟩
    have hxm0 := m0 x
    have hxm1 := m1 x
    have hxm2 := m2 x
    have hxm3 := m3 x
    have hxm4 := m4 x
    go_simp
    try with_reducible rfl
  try simp only [Act.put, List.setIfInBounds_toArray, List.set_cons_zero, List.set_cons_succ]
  refine' plan_take _ (by rfl) _ (by rfl) ?_ ?_
  rotate_left
  · rintro _ ⟨x, rfl⟩
    have hxm0 := m0 x
    have hxm1 := m1 x
    have hxm2 := m2 x
    have hxm3 := m3 x
    have hxm4 := m4 x
    go_simp
    try with_reducible rfl
  try simp only [Act.put, List.setIfInBounds_toArray, List.set_cons_zero, List.set_cons_succ]
  refine plan_two ?h1 ?h2
  case' h1 =>
    refine plan_do _ (by rfl) (by rfl) (fun K hK => ?_)
    go_simp
    refine (HG.out.2.1 _ (Below.refl _ w).drew).mono ?_
    rintro e w2 ⟨rfl, hb2⟩
    have T2 := TreeOn.below (w := w.drew) (HG.out.2.2.2.2.2.2.1.below (Below.refl _ _).drew) hb2
    have B2' := (Below.refl w.heap.size w).drew.trans (hb2.mono (Below.refl w.heap.size w).drew.size)
    have B2 := Lib.hid (And.intro T2 B2')
    clear T2 hb2 B2'
    try go_simp
    refine hK.out _ _ (HI.out _ B2.out.1) ?_
    clear hK K
    try simp only [Act.put, List.setIfInBounds_toArray, List.set_cons_zero, List.set_cons_succ]
    refine' plan_take _ (by rfl) _ (by rfl) ?_ ?_
    rotate_left
    · rintro _ ⟨x, rfl⟩
      go_simp
      try with_reducible rfl
    try simp only [Act.put, List.setIfInBounds_toArray, List.set_cons_zero, List.set_cons_succ]
    refine' plan_take _ (by rfl) _ (by rfl) ?_ ?_
    rotate_left
    · rintro _ ⟨x, rfl⟩
      go_simp
      try with_reducible rfl
    try simp only [Act.put, List.setIfInBounds_toArray, List.set_cons_zero, List.set_cons_succ]
    refine' plan_take _ (by rfl) _ (by rfl) ?_ ?_
    rotate_left
    · rintro _ ⟨x, rfl⟩
      go_simp
      try with_reducible rfl
    try simp only [Act.put, List.setIfInBounds_toArray, List.set_cons_zero, List.set_cons_succ]
    refine plan_do _ (by rfl) (by rfl) (fun K hK => ?_)
    go_simp
    have A2 := (Below.refl w2.heap.size w2).alloc (Nat.le_refl _) (.cells #[.int .u64 0, .int .u64 0] 126)
    have TA := B2.out.1.below A2
    have BA := B2.out.2.trans (A2.mono B2.out.2.size)
    have qA := heap_alloc_new w2 (.cells #[.int .u64 0, .int .u64 0] 126)
    have ltA : w.heap.size ≤ w2.heap.size := B2.out.2.size
    clear A2 B2
    generalize w2.alloc (.cells #[.int .u64 0, .int .u64 0] 126) = W at *
    generalize w2.heap.size = b6 at *
    try go_simp
    refine hK.out _ _ (HI.out _ TA) ?_
    clear hK K
    try simp only [Act.put, List.setIfInBounds_toArray, List.set_cons_zero, List.set_cons_succ]
    have c0 : (W).cell? ⟨b6, 0, none⟩ = some (.int .u64 0) := by rw [cell_of_block qA]; rfl
    have c1 : (W).cell? ⟨b6, 1, none⟩ = some (.int .u64 0) := by rw [cell_of_block qA]; rfl
    have f0 : (W).frozen? ⟨b6, 0, none⟩ = false := frozen_of_block qA
    have f1 : (W).frozen? ⟨b6, 1, none⟩ = false := frozen_of_block qA
    have HA := Lib.hid (And.intro TA (And.intro BA (And.intro qA ltA)))
    clear TA BA qA ltA
    refine plan_do _ (by rfl) (by rfl) (fun K hK => ?_)
    go_simp
    have BB := st2_below HA.out.2.1 (HA.out.2.2.2) (.int .u64 k0) (.int .u64 k1)
    have TB : TreeOn ((W.setCell ⟨b6, 0, none⟩ (.int .u64 k0)).setCell ⟨b6, 1, none⟩ (.int .u64 k1)) px ps kind root := HG.out.2.2.2.2.2.2.1.below BB
    clear c0 c1 f0 f1 HA
    generalize ((W.setCell ⟨b6, 0, none⟩ (.int .u64 k0)).setCell ⟨b6, 1, none⟩ (.int .u64 k1)) = W7 at *
    try go_simp
    refine hK.out _ _ (HI.out _ TB) ?_
    clear hK K
    try simp only [Act.put, List.setIfInBounds_toArray, List.set_cons_zero, List.set_cons_succ]
    refine plan_do _ (by rfl) (by rfl) (fun K hK => ?_)
    go_simp
    try go_simp
    refine hK.out _ _ (HI.out _ TB) ?_
    clear hK K
    try simp only [Act.put, List.setIfInBounds_toArray, List.set_cons_zero, List.set_cons_succ]
    refine plan_nil ?_
    have H7 := Lib.hid (And.intro TB BB)
    clear TB BB
    clear w2
  case' h2 =>
    refine plan_do _ (by rfl) (by rfl) (fun K hK => ?_)
    go_simp
    have BA := ((Below.refl w.heap.size w).alloc (Nat.le_refl _) (.cells #[.int .u64 0, .int .u64 0] 126)).drew
    have qA : (w.alloc (.cells #[.int .u64 0, .int .u64 0] 126)).drew.heap[w.heap.size]? = _ := heap_alloc_new w (.cells #[.int .u64 0, .int .u64 0] 126)
    have TA := HG.out.2.2.2.2.2.2.1.below BA
    generalize (w.alloc (.cells #[.int .u64 0, .int .u64 0] 126)).drew = w1 at *
    try go_simp
    refine hK.out _ _ (HI.out _ TA) ?_
    clear hK K
    try simp only [Act.put, List.setIfInBounds_toArray, List.set_cons_zero, List.set_cons_succ]
    have HA0 := Lib.hid (And.intro TA (And.intro BA qA))
    clear TA BA qA
    refine plan_do _ (by rfl) (by rfl) (fun K hK => ?_)
    go_simp
    refine (HG.out.2.1 _ HA0.out.2.1).mono ?_
    rintro e W ⟨rfl, hb2⟩
    have TA := HA0.out.1.below hb2
    have BA := HA0.out.2.1.trans (hb2.mono HA0.out.2.1.size)
    have qA := (hb2.block w.heap.size (Array.getElem?_eq_some_iff.1 HA0.out.2.2).1).trans HA0.out.2.2
    obtain ⟨b6, hb6⟩ : ∃ b6, w.heap.size = b6 := ⟨_, rfl⟩
    have ltA : w.heap.size ≤ b6 := by omega
    rw [hb6] at qA
    simp only [hb6]
    clear hb2 HA0
    try go_simp
    refine hK.out _ _ (HI.out _ TA) ?_
    clear hK K
    try simp only [Act.put, List.setIfInBounds_toArray, List.set_cons_zero, List.set_cons_succ]
    refine' plan_take _ (by rfl) _ (by rfl) ?_ ?_
    rotate_left
    · rintro _ ⟨x, rfl⟩
      go_simp
      try with_reducible rfl
    try simp only [Act.put, List.setIfInBounds_toArray, List.set_cons_zero, List.set_cons_succ]
    refine' plan_take _ (by rfl) _ (by rfl) ?_ ?_
    rotate_left
    · rintro _ ⟨x, rfl⟩
      go_simp
      try with_reducible rfl
    try simp only [Act.put, List.setIfInBounds_toArray, List.set_cons_zero, List.set_cons_succ]
    refine' plan_take _ (by rfl) _ (by rfl) ?_ ?_
    rotate_left
    · rintro _ ⟨x, rfl⟩
      go_simp
      try with_reducible rfl
    try simp only [Act.put, List.setIfInBounds_toArray, List.set_cons_zero, List.set_cons_succ]
    have c0 : (W).cell? ⟨b6, 0, none⟩ = some (.int .u64 0) := by rw [cell_of_block qA]; rfl
    have c1 : (W).cell? ⟨b6, 1, none⟩ = some (.int .u64 0) := by rw [cell_of_block qA]; rfl
    have f0 : (W).frozen? ⟨b6, 0, none⟩ = false := frozen_of_block qA
    have f1 : (W).frozen? ⟨b6, 1, none⟩ = false := frozen_of_block qA
    have HA := Lib.hid (And.intro TA (And.intro BA (And.intro qA ltA)))
    clear TA BA qA ltA
    refine plan_do _ (by rfl) (by rfl) (fun K hK => ?_)
    go_simp
    have BB := st2_below HA.out.2.1 (HA.out.2.2.2) (.int .u64 k0) (.int .u64 k1)
    have TB : TreeOn ((W.setCell ⟨b6, 0, none⟩ (.int .u64 k0)).setCell ⟨b6, 1, none⟩ (.int .u64 k1)) px ps kind root := HG.out.2.2.2.2.2.2.1.below BB
    clear c0 c1 f0 f1 HA
    generalize ((W.setCell ⟨b6, 0, none⟩ (.int .u64 k0)).setCell ⟨b6, 1, none⟩ (.int .u64 k1)) = W7 at *
    try go_simp
    refine hK.out _ _ (HI.out _ TB) ?_
    clear hK K
    try simp only [Act.put, List.setIfInBounds_toArray, List.set_cons_zero, List.set_cons_succ]
    refine plan_do _ (by rfl) (by rfl) (fun K hK => ?_)
    go_simp
    try go_simp
    refine hK.out _ _ (HI.out _ TB) ?_
    clear hK K
    try simp only [Act.put, List.setIfInBounds_toArray, List.set_cons_zero, List.set_cons_succ]
    refine plan_nil ?_
    have H7 := Lib.hid (And.intro TB BB)
    clear TB BB
    clear w1
  all_goals
    clear hI0 hme
    have hme := meth_remove
    have z7 := H7.out.2.size
    have s7 := HG.out.2.2.2.2.2.2.2.below H7.out.2
    have hI7 : I W7.drew := HI.out _ (H7.out.1.below (Below.refl _ _).drew)
    have H2 := Lib.hid (And.intro H7.out.1 (And.intro s7 (Keep.of_below H7.out.2 HG.out.2.2.2.2.2.1)))
    clear s7 H7
    go_wp2_with fail
    refine wp_region_plan I (.take 0 (.take 1 (.take 2 (.take 3 (.take 4 (.take 5 (.take 6 (.take 7 (.take 8 (.take 9 (.take 10 (.two 11 16 (.take 12 (.take 13 (.take 14 (.take 15 (.go 16 (.go 17 (.go 18 (.go 19 .nil)))))))) (.go 11 (.take 12 (.take 13 (.take 14 (.take 15 (.go 17 (.go 18 (.go 19 .nil)))))))))))))))))))) (by kernel_rfl) (by kernel_rfl) hI7 ?_
    clear hI7
    refine' plan_take _ (by rfl) _ (by rfl) ?_ ?_
    rotate_left
    · rintro _ ⟨x, rfl⟩
      have hxm0 := m0 x
      have hxm1 := m1 x
      have hxm2 := m2 x
      have hxm3 := m3 x
      have hxm4 := m4 x
      go_simp
      try with_reducible rfl
    try simp only [Act.put, List.setIfInBounds_toArray, List.set_cons_zero, List.set_cons_succ]
    refine' plan_take _ (by rfl) _ (by rfl) ?_ ?_
    rotate_left
    · rintro _ ⟨x, rfl⟩
      have hxm0 := m0 x
      have hxm1 := m1 x
      have hxm2 := m2 x
      have hxm3 := m3 x
      have hxm4 := m4 x
      go_simp
      try with_reducible rfl
    try simp only [Act.put, List.setIfInBounds_toArray, List.set_cons_zero, List.set_cons_succ]
    refine' plan_take _ (by rfl) _ (by rfl) ?_ ?_
    rotate_left
    · rintro _ ⟨x, rfl⟩
      have hxm0 := m0 x
      have hxm1 := m1 x
      have hxm2 := m2 x
      have hxm3 := m3 x
      have hxm4 := m4 x
      go_simp
      try with_reducible rfl
    try simp only [Act.put, List.setIfInBounds_toArray, List.set_cons_zero, List.set_cons_succ]
    refine' plan_take _ (by rfl) _ (by rfl) ?_ ?_
    rotate_left
    · rintro _ ⟨x, rfl⟩
      have hxm0 := m0 x
      have hxm1 := m1 x
      have hxm2 := m2 x
      have hxm3 := m3 x
      have hxm4 := m4 x
      go_simp
      try with_reducible rfl
    try simp only [Act.put, List.setIfInBounds_toArray, List.set_cons_zero, List.set_cons_succ]
    refine' plan_take _ (by rfl) _ (by rfl) ?_ ?_
    rotate_left
    · rintro _ ⟨x, rfl⟩
      have hxm0 := m0 x
      have hxm1 := m1 x
      have hxm2 := m2 x
      have hxm3 := m3 x
      have hxm4 := m4 x
      go_simp
      try with_reducible rfl
    try simp only [Act.put, List.setIfInBounds_toArray, List.set_cons_zero, List.set_cons_succ]
    refine' plan_take _ (by rfl) _ (by rfl) ?_ ?_
    rotate_left
    · rintro _ ⟨x, rfl⟩
      have hxm0 := m0 x
      have hxm1 := m1 x
      have hxm2 := m2 x
      have hxm3 := m3 x
      have hxm4 := m4 x
      go_simp
      try with_reducible rfl
    try simp only [Act.put, List.setIfInBounds_toArray, List.set_cons_zero, List.set_cons_succ]
    refine' plan_take _ (by rfl) _ (by rfl) ?_ ?_
    rotate_left
    · rintro _ ⟨x, rfl⟩
      have hxm0 := m0 x
      have hxm1 := m1 x
      have hxm2 := m2 x
      have hxm3 := m3 x
      have hxm4 := m4 x
      go_simp
      try with_reducible rfl
    try simp only [Act.put, List.setIfInBounds_toArray, List.set_cons_zero, List.set_cons_succ]
    refine' plan_take _ (by rfl) _ (by rfl) ?_ ?_
    rotate_left
    · rintro _ ⟨x, rfl⟩
      have hxm0 := m0 x
      have hxm1 := m1 x
      have hxm2 := m2 x
      have hxm3 := m3 x
      have hxm4 := m4 x
      go_simp
      try with_reducible rfl
    try simp only [Act.put, List.setIfInBounds_toArray, List.set_cons_zero, List.set_cons_succ]
    refine' plan_take _ (by rfl) _ (by rfl) ?_ ?_
    rotate_left
    · rintro _ ⟨x, rfl⟩
      have hxm0 := m0 x
      have hxm1 := m1 x
      have hxm2 := m2 x
      have hxm3 := m3 x
      have hxm4 := m4 x
      go_simp
      try with_reducible rfl
    try simp only [Act.put, List.setIfInBounds_toArray, List.set_cons_zero, List.set_cons_succ]
    refine' plan_take _ (by rfl) _ (by rfl) ?_ ?_
    rotate_left
    · rintro _ ⟨x, rfl⟩
      have hxm0 := m0 x
      have hxm1 := m1 x
      have hxm2 := m2 x
      have hxm3 := m3 x
      have hxm4 := m4 x
      go_simp
      try with_reducible rfl
    try simp only [Act.put, List.setIfInBounds_toArray, List.set_cons_zero, List.set_cons_succ]
    refine' plan_take _ (by rfl) _ (by rfl) ?_ ?_
    rotate_left
    · rintro _ ⟨x, rfl⟩
      have hxm0 := m0 x
      have hxm1 := m1 x
      have hxm2 := m2 x
      have hxm3 := m3 x
      have hxm4 := m4 x
      go_simp
      try with_reducible rfl
    try simp only [Act.put, List.setIfInBounds_toArray, List.set_cons_zero, List.set_cons_succ]
    refine plan_two ?_ ?_
    case' _ =>
      refine plan_do _ (by rfl) (by rfl) (fun K hK => ?_)
      go_simp
      refine (HG.out.2.2.1 _ _ (H2.out.2.1.drewN 1)).mono ?_
      rintro e w3 ⟨rfl, s3, k3, x3⟩
      have T3 := TreeOn.keep (w := W7.drew) H2.out.1 k3 HG.out.2.2.2.2.1
      have H3 := Lib.hid (And.intro T3 (And.intro s3 (And.intro k3 x3)))
      clear T3 s3 k3 x3
      try go_simp
      refine hK.out _ _ (HI.out _ H3.out.1) ?_
      clear hK K
      try simp only [Act.put, List.setIfInBounds_toArray, List.set_cons_zero, List.set_cons_succ]
      refine' plan_take _ (by rfl) _ (by rfl) ?_ ?_
      rotate_left
      · rintro _ ⟨x, rfl⟩
        go_simp
        try with_reducible rfl
      try simp only [Act.put, List.setIfInBounds_toArray, List.set_cons_zero, List.set_cons_succ]
      refine' plan_take _ (by rfl) _ (by rfl) ?_ ?_
      rotate_left
      · rintro _ ⟨x, rfl⟩
        go_simp
        try with_reducible rfl
      try simp only [Act.put, List.setIfInBounds_toArray, List.set_cons_zero, List.set_cons_succ]
      refine' plan_take _ (by rfl) _ (by rfl) ?_ ?_
      rotate_left
      · rintro _ ⟨x, rfl⟩
        go_simp
        try with_reducible rfl
      try simp only [Act.put, List.setIfInBounds_toArray, List.set_cons_zero, List.set_cons_succ]
      refine' plan_take _ (by rfl) _ (by rfl) ?_ ?_
      rotate_left
      · rintro _ ⟨x, rfl⟩
        go_simp
        try with_reducible rfl
      try simp only [Act.put, List.setIfInBounds_toArray, List.set_cons_zero, List.set_cons_succ]
      refine plan_do _ (by rfl) (by rfl) (fun K hK => ?_)
      go_simp
      have A4 := (Below.refl w3.heap.size w3).alloc (Nat.le_refl _) (.cells #[.int .u64 0, .int .u64 0] 126)
      have TA := H3.out.1.below A4
      have sA := (H3.out.2.1.wide A4).mono (Z := fun k => Y k ∨ k = w3.heap.size) (fun k hk => hk.imp id fun e => ⟨by omega, by simp; omega⟩)
      have kA := (H2.out.2.2.trans (Keep.drewN Y W7 1)).trans (H3.out.2.2.1.trans (H3.out.2.1.keep A4))
      have qA := heap_alloc_new w3 (.cells #[.int .u64 0, .int .u64 0] 126)
      have lA : w.heap.size ≤ w3.heap.size := ((H2.out.2.2.trans (Keep.drewN Y W7 1)).trans H3.out.2.2.1).size
      have xA := H3.out.2.2.2
      clear A4 H3
      generalize w3.alloc (.cells #[.int .u64 0, .int .u64 0] 126) = W at *
      generalize w3.heap.size = b9 at *
      try go_simp
      refine hK.out _ _ (HI.out _ TA) ?_
      clear hK K
      try simp only [Act.put, List.setIfInBounds_toArray, List.set_cons_zero, List.set_cons_succ]
      refine plan_do _ (by rfl) (by rfl) (fun K hK => ?_)
      go_simp
      try go_simp
      refine hK.out _ _ (HI.out _ TA) ?_
      clear hK K
      try simp only [Act.put, List.setIfInBounds_toArray, List.set_cons_zero, List.set_cons_succ]
      have c0 : (W).cell? ⟨b9, 0, none⟩ = some (.int .u64 0) := by rw [cell_of_block qA]; rfl
      have c1 : (W).cell? ⟨b9, 1, none⟩ = some (.int .u64 0) := by rw [cell_of_block qA]; rfl
      have f0 : (W).frozen? ⟨b9, 0, none⟩ = false := frozen_of_block qA
      have f1 : (W).frozen? ⟨b9, 1, none⟩ = false := frozen_of_block qA
      have HA := Lib.hid (And.intro TA (And.intro sA (And.intro kA (And.intro qA lA))))
      have Hx9 := Lib.hid xA
      clear TA sA kA qA lA xA
      refine plan_do _ (by rfl) (by rfl) (fun K hK => ?_)
      go_simp
      have hne : px ≠ b9 := by have := HG.out.2.2.2.2.2.1 px HG.out.2.2.2.2.1; have := HA.out.2.2.2.2; omega
      have qB := st2_heap HA.out.2.2.2.1 (.int .u64 ik) (.int .u64 iv)
      have oB : ∀ k, k ≠ b9 → ((W.setCell ⟨b9, 0, none⟩ (.int .u64 ik)).setCell ⟨b9, 1, none⟩ (.int .u64 iv)).heap[k]? = W.heap[k]? := fun k hk => st2_other hk _ _
      have sB : StOn ((W.setCell ⟨b9, 0, none⟩ (.int .u64 ik)).setCell ⟨b9, 1, none⟩ (.int .u64 iv)) ps S1 Y := (HA.out.2.1.write (Or.inr rfl) HA.out.2.2.2.1 ⟨by decide, by decide⟩ (by simp) (by simp) fun k _ hk => oB k hk).mono fun k hk => Or.inl hk
      have kB : Keep Y w ((W.setCell ⟨b9, 0, none⟩ (.int .u64 ik)).setCell ⟨b9, 1, none⟩ (.int .u64 iv)) := HA.out.2.2.1.trans ⟨rfl, rfl, rfl, by simp, fun k hk => oB k (by have := HG.out.2.2.2.2.2.1 k hk; have := HA.out.2.2.2.2; omega)⟩
      have P9 : DeAt w ((W.setCell ⟨b9, 0, none⟩ (.int .u64 ik)).setCell ⟨b9, 1, none⟩ (.int .u64 iv)) px ps kind root S1 Y b9 ik iv := ⟨(oB px hne).trans HA.out.1, sB, kB, qB, HA.out.2.2.2.2⟩
      clear c0 c1 f0 f1 HA qB oB sB kB hne
      have H9 := Lib.hid P9
      clear P9
      generalize ((W.setCell ⟨b9, 0, none⟩ (.int .u64 ik)).setCell ⟨b9, 1, none⟩ (.int .u64 iv)) = W9 at *
      try go_simp
      refine hK.out _ _ (HI.out _ H9.out.t) ?_
      clear hK K
      try simp only [Act.put, List.setIfInBounds_toArray, List.set_cons_zero, List.set_cons_succ]
      refine plan_do _ (by rfl) (by rfl) (fun K hK => ?_)
      go_simp
      try go_simp
      refine hK.out _ _ (HI.out _ H9.out.t) ?_
      clear hK K
      try simp only [Act.put, List.setIfInBounds_toArray, List.set_cons_zero, List.set_cons_succ]
      refine plan_nil ?_
      clear w3
    rotate_left
    case' _ =>
      refine plan_do _ (by rfl) (by rfl) (fun K hK => ?_)
      go_simp
      have A3 := ((Below.refl W7.heap.size W7).alloc (Nat.le_refl _) (.cells #[.int .u64 0, .int .u64 0] 126)).drew
      have T3 := H2.out.1.below A3
      have qz : (W7.alloc (.cells #[.int .u64 0, .int .u64 0] 126)).drew.heap[W7.heap.size]? = _ := heap_alloc_new W7 (.cells #[.int .u64 0, .int .u64 0] 126)
      have s3 := H2.out.2.1.wide A3
      have z3 : (W7.alloc (.cells #[.int .u64 0, .int .u64 0] 126)).drew.heap.size = W7.heap.size + 1 := by show (W7.alloc _).heap.size = _; simp
      have k3 := H2.out.2.2.trans (H2.out.2.1.keep A3)
      rw [z3] at s3
      clear A3 z3
      generalize (W7.alloc (.cells #[.int .u64 0, .int .u64 0] 126)).drew = w3 at *
      generalize W7.heap.size = b9 at *
      try go_simp
      refine hK.out _ _ (HI.out _ T3) ?_
      clear hK K
      try simp only [Act.put, List.setIfInBounds_toArray, List.set_cons_zero, List.set_cons_succ]
      have H3 := Lib.hid (And.intro T3 (And.intro s3 (And.intro k3 qz)))
      clear T3 s3 k3 qz
      refine plan_do _ (by rfl) (by rfl) (fun K hK => ?_)
      go_simp
      refine (HG.out.2.2.1 _ _ H3.out.2.1).mono ?_
      rintro e W ⟨rfl, s4, k4, x4⟩
      have TA := TreeOn.keep (w := w3) H3.out.1 k4 (Or.inl HG.out.2.2.2.2.1)
      have sA := s4.mono (Z := fun k => Y k ∨ k = b9) (fun k hk => hk.imp id fun e => ⟨by omega, by omega⟩)
      have kA := H3.out.2.2.1.trans (k4.mono (Z := Y) fun k hk => Or.inl hk)
      have qA : W.heap[b9]? = some (.cells #[.int .u64 0, .int .u64 0] 126) := (k4.block b9 (Or.inr ⟨Nat.le_refl _, Nat.lt_succ_self _⟩)).trans H3.out.2.2.2
      have lA := z7
      have xA := x4
      clear s4 k4 x4 H3
      try go_simp
      refine hK.out _ _ (HI.out _ TA) ?_
      clear hK K
      try simp only [Act.put, List.setIfInBounds_toArray, List.set_cons_zero, List.set_cons_succ]
      refine' plan_take _ (by rfl) _ (by rfl) ?_ ?_
      rotate_left
      · rintro _ ⟨x, rfl⟩
        go_simp
        try with_reducible rfl
      try simp only [Act.put, List.setIfInBounds_toArray, List.set_cons_zero, List.set_cons_succ]
      refine' plan_take _ (by rfl) _ (by rfl) ?_ ?_
      rotate_left
      · rintro _ ⟨x, rfl⟩
        go_simp
        try with_reducible rfl
      try simp only [Act.put, List.setIfInBounds_toArray, List.set_cons_zero, List.set_cons_succ]
      refine' plan_take _ (by rfl) _ (by rfl) ?_ ?_
      rotate_left
      · rintro _ ⟨x, rfl⟩
        go_simp
        try with_reducible rfl
      try simp only [Act.put, List.setIfInBounds_toArray, List.set_cons_zero, List.set_cons_succ]
      refine' plan_take _ (by rfl) _ (by rfl) ?_ ?_
      rotate_left
      · rintro _ ⟨x, rfl⟩
        go_simp
        try with_reducible rfl
      try simp only [Act.put, List.setIfInBounds_toArray, List.set_cons_zero, List.set_cons_succ]
      refine plan_do _ (by rfl) (by rfl) (fun K hK => ?_)
      go_simp
      try go_simp
      refine hK.out _ _ (HI.out _ TA) ?_
      clear hK K
      try simp only [Act.put, List.setIfInBounds_toArray, List.set_cons_zero, List.set_cons_succ]
      have c0 : (W).cell? ⟨b9, 0, none⟩ = some (.int .u64 0) := by rw [cell_of_block qA]; rfl
      have c1 : (W).cell? ⟨b9, 1, none⟩ = some (.int .u64 0) := by rw [cell_of_block qA]; rfl
      have f0 : (W).frozen? ⟨b9, 0, none⟩ = false := frozen_of_block qA
      have f1 : (W).frozen? ⟨b9, 1, none⟩ = false := frozen_of_block qA
      have HA := Lib.hid (And.intro TA (And.intro sA (And.intro kA (And.intro qA lA))))
      have Hx9 := Lib.hid xA
      clear TA sA kA qA lA xA
      refine plan_do _ (by rfl) (by rfl) (fun K hK => ?_)
      go_simp
      have hne : px ≠ b9 := by have := HG.out.2.2.2.2.2.1 px HG.out.2.2.2.2.1; have := HA.out.2.2.2.2; omega
      have qB := st2_heap HA.out.2.2.2.1 (.int .u64 ik) (.int .u64 iv)
      have oB : ∀ k, k ≠ b9 → ((W.setCell ⟨b9, 0, none⟩ (.int .u64 ik)).setCell ⟨b9, 1, none⟩ (.int .u64 iv)).heap[k]? = W.heap[k]? := fun k hk => st2_other hk _ _
      have sB : StOn ((W.setCell ⟨b9, 0, none⟩ (.int .u64 ik)).setCell ⟨b9, 1, none⟩ (.int .u64 iv)) ps S1 Y := (HA.out.2.1.write (Or.inr rfl) HA.out.2.2.2.1 ⟨by decide, by decide⟩ (by simp) (by simp) fun k _ hk => oB k hk).mono fun k hk => Or.inl hk
      have kB : Keep Y w ((W.setCell ⟨b9, 0, none⟩ (.int .u64 ik)).setCell ⟨b9, 1, none⟩ (.int .u64 iv)) := HA.out.2.2.1.trans ⟨rfl, rfl, rfl, by simp, fun k hk => oB k (by have := HG.out.2.2.2.2.2.1 k hk; have := HA.out.2.2.2.2; omega)⟩
      have P9 : DeAt w ((W.setCell ⟨b9, 0, none⟩ (.int .u64 ik)).setCell ⟨b9, 1, none⟩ (.int .u64 iv)) px ps kind root S1 Y b9 ik iv := ⟨(oB px hne).trans HA.out.1, sB, kB, qB, HA.out.2.2.2.2⟩
      clear c0 c1 f0 f1 HA qB oB sB kB hne
      have H9 := Lib.hid P9
      clear P9
      generalize ((W.setCell ⟨b9, 0, none⟩ (.int .u64 ik)).setCell ⟨b9, 1, none⟩ (.int .u64 iv)) = W9 at *
      try go_simp
      refine hK.out _ _ (HI.out _ H9.out.t) ?_
      clear hK K
      try simp only [Act.put, List.setIfInBounds_toArray, List.set_cons_zero, List.set_cons_succ]
      refine plan_do _ (by rfl) (by rfl) (fun K hK => ?_)
      go_simp
      try go_simp
      refine hK.out _ _ (HI.out _ H9.out.t) ?_
      clear hK K
      try simp only [Act.put, List.setIfInBounds_toArray, List.set_cons_zero, List.set_cons_succ]
      refine plan_nil ?_
      clear w3
    all_goals
      clear m0 m1 m2 m3 m4 HI
      have t7 := H9.out.t
      simp only [TreeOn] at t7
      have c0 : (W9).cell? ⟨px, 0, none⟩ = some (PV ps) := by rw [cell_of_block t7]; rfl
      have c1 : (W9).cell? ⟨px, 1, none⟩ = some (.int .i64 kind) := by rw [cell_of_block t7]; rfl
      have c2 : (W9).cell? ⟨px, 2, none⟩ = some (.int .i64 0) := by rw [cell_of_block t7]; rfl
      have c3 : (W9).cell? ⟨px, 3, none⟩ = some (.iface 247 (binV ps kind)) := by rw [cell_of_block t7]; rfl
      have c4 : (W9).cell? ⟨px, 4, none⟩ = some (.int .u64 root) := by rw [cell_of_block t7]; rfl
      have f0 : (W9).frozen? ⟨px, 0, none⟩ = false := frozen_of_block t7
      have f1 : (W9).frozen? ⟨px, 1, none⟩ = false := frozen_of_block t7
      have f2 : (W9).frozen? ⟨px, 2, none⟩ = false := frozen_of_block t7
      have f3 : (W9).frozen? ⟨px, 3, none⟩ = false := frozen_of_block t7
      have f4 : (W9).frozen? ⟨px, 4, none⟩ = false := frozen_of_block t7
      have hne : px ≠ b9 := by have := HG.out.2.2.2.2.2.1 px HG.out.2.2.2.2.1; have := H9.out.l; omega
      have t8 : TreeOn (W9.setCell ⟨px, 4, none⟩ (.int .u64 now)) px ps kind now := heap_setCell t7
      have q8 := (heap_setCell_ne (w := W9) (b := px) (i := 4) (v := .int .u64 now) hne.symm).trans H9.out.q
      have s8 : StOn (W9.setCell ⟨px, 4, none⟩ (.int .u64 now)) ps S1 Y := H9.out.st.write HG.out.2.2.2.2.1 t7 ⟨by decide, by decide⟩ (by simp) (by simp) fun k _ hk => heap_setCell_ne hk
      have k8 : Keep (fun k => Y k ∧ k ≠ px) w (W9.setCell ⟨px, 4, none⟩ (.int .u64 now)) := (H9.out.k.mono fun k hk => hk.1).trans ⟨rfl, rfl, rfl, by simp, fun k hk => heap_setCell_ne hk.2⟩
      have e0 : ((W9.setCell ⟨px, 4, none⟩ (.int .u64 now))).cell? ⟨b9, 0, none⟩ = some (.int .u64 ik) := by rw [cell_of_block q8]; rfl
      have e1 : ((W9.setCell ⟨px, 4, none⟩ (.int .u64 now))).cell? ⟨b9, 1, none⟩ = some (.int .u64 iv) := by rw [cell_of_block q8]; rfl
      have H8 := Lib.hid (And.intro t8 (And.intro s8 k8))
      clear t7 t8 s8 k8 hne q8
      go_wp2_with fail
      refine (HG.out.2.2.2.1 _ _ H8.out.2.1 H8.out.1 HG.out.2.2.2.2.1).mono ?_
      rintro e w9 ⟨rfl, s9, k9⟩
      have HF := Lib.hid (And.intro s9 (And.intro (H8.out.2.2.trans (k9.mono fun k hk => hk.1)) (H8.out.1.keep k9 HG.out.2.2.2.2.1)))
      clear s9 k9 H8 c0 c1 c2 c3 c4 f0 f1 f2 f3 f4 e0 e1
      go_wp2_with fail
      go_ret3
      exact ⟨rfl, HF.out.1, HF.out.2.1, HF.out.2.2, Hx9.out⟩
end Go.Proofs.YtoaabbnieakidaaGreatDoorR
