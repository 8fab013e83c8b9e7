/- Trees of any kind: Delete of a key that is there: the walk. Maps: Store, Limit, Get, Delete, Select at no place; compact.New: the walks. Cursors: asked, put: the walks. -/
import Derived.Test.YtepdkbmnkjfcpaaGreatDoorHac
import Derived.Test.YtepdkbmnkjfcpaaGreatDoorGbp
import Derived.Test.YtepdkbmnkjfcpaaGreatDoorGbo
import Derived.Test.YtepdkbmnkjfcpaaGreatDoorGbj
import Derived.Test.YtepdkbmnkjfcpaaGreatDoorGbr
namespace Go.Proofs.YtepdkbmnkjfcpaaGreatDoor
open Go.RowKit Go.BigFrame Go.Maps Go.WideMaps Lf

theorem meth_remove (f : Nat) (v : Value) (w : World) : (method (f + 1) 125 v "loft/backend.remove").run Tryz.prog w = .ok (325, v) w := by kernel_rfl
/-- where the walk of Delete stands behind the removal -/
structure DeAt (w W : World) (px ps kind root : Nat) (S : St) (Y : Nat → Prop) (b9 ik iv : Nat) : Prop where
  t : TreeOn W px ps kind root
  st : StOn W ps S Y
  k : Keep Y w W
  q : W.heap[b9]? = some (.cells #[.int .u64 ik, .int .u64 iv] 105)
  l : w.heap.size ≤ b9

set_option maxRecDepth 100000 in
set_option maxHeartbeats 12800000 in
theorem tree_delete {w : World} {px ps kind root : Nat} {S S1 : St} {Y : Nat → Prop} (h : StOn w ps S Y) (hi : Inv S) (hT : TreeOn w px ps kind root) (hpx : Y px) (hl : root < 18446744073709551616) {j c : FuncId} {jn : Jn} (hk : KindOk kind j c jn) (key : List UInt8) {F : Nat × Nat} (hF : downM S key (Lf.limit S) root 0 = some F) (hF0 : F.1 ≠ 0) (hF1 : F.1 < 18446744073709551616) {now ik iv : Nat} (hR : binDelM jn S root key = some ((now, ik, iv), S1)) (hik : ik < 18446744073709551616) (hiv : iv < 18446744073709551616) (hi1 : Inv S1) (hg : (getBlob S1 iv).2 ≠ 8) (hi2 : Inv (S1.drop ik).2) :
    Calls Tryz.prog 17 #[PV px, SV key] w fun e w' => e = .returned (.tuple #[SV (getBlob S1 iv).1, .bool true, .int .i64 0]) ∧ StOn w' ps ((S1.drop ik).2.drop iv).2 Y ∧ Keep (fun k => Y k ∧ k ≠ px) w w' ∧ TreeOn w' px ps kind now ∧ now < 18446744073709551616 := by
  have hn := tree_none hT
  have hfi := fun W (hW : Below w.heap.size w W) => bin_find (h.below hW) hi kind root hl key hF hF1
  have hfd : decide (F.1 ≠ 0) = true := decide_eq_true hF0
  rw [hfd] at hfi
  have hre := fun W Z (hW : StOn W ps S Z) => bin_remove hW hi hk root hl key hR
  have hgo := fun W Z (hW : StOn W ps S1 Z) (hT : TreeOn W px ps kind now) (hy : Z px) => tree_gone hW hi1 hT hy ik iv hik hiv hg hi2
  generalize (getNode S F.1).1.key = k0 at *
  generalize (getNode S F.1).1.val = k1 at *
  generalize (getBlob S1 iv).1 = tv at *
  simp only [itV] at hfi hre hgo ⊢
  have hY := h.yl
  obtain ⟨I, hIi, hIo⟩ := tree_class px ps kind root
  have hy0 := fun x : Keeps I => hIi _ x.ok
  simp only [TreeOn] at hy0
  have m0 : ∀ x : Keeps I, x.to.cell? ⟨px, 0, none⟩ = some (PV ps) := fun x => by rw [cell_of_block (hy0 x)]; rfl
  have m1 : ∀ x : Keeps I, x.to.cell? ⟨px, 1, none⟩ = some (.int .i64 kind) := fun x => by rw [cell_of_block (hy0 x)]; rfl
  have m2 : ∀ x : Keeps I, x.to.cell? ⟨px, 2, none⟩ = some (.int .i64 0) := fun x => by rw [cell_of_block (hy0 x)]; rfl
  have m3 : ∀ x : Keeps I, x.to.cell? ⟨px, 3, none⟩ = some (.iface 125 (binV ps kind)) := fun x => by rw [cell_of_block (hy0 x)]; rfl
  have m4 : ∀ x : Keeps I, x.to.cell? ⟨px, 4, none⟩ = some (.int .u64 root) := fun x => by rw [cell_of_block (hy0 x)]; rfl
  have hI0 : I w.drew := hIo _ (hT.below (Below.refl _ _).drew)
  have hme := meth_find
  have HI := Lib.hid hIo
  have HG := Lib.hid (And.intro hn (And.intro hfi (And.intro hre (And.intro hgo (And.intro hpx (And.intro hY (And.intro hT h)))))))
  clear hn hfi hre hgo hT hIi hIo hy0 h hi hi1 hi2 hg hk hR hF hF0 hF1 hfd hY hl
  go_enter Tryz.func17, Tryz.ntmps17
  go_wp2_with fail
  refine HG.out.1.mono ?_
  rintro e w1 ⟨rfl, rfl⟩
  go_wp2_with fail
  refine wp_region_plan I (.take 0 (.take 1 (.take 2 (.take 3 (.take 4 (.take 5 (.take 6 (.take 7 (.take 8 (.take 9 (.take 10 (.two 11 15 (.take 12 (.take 13 (.take 14 (.go 15 (.go 16 (.go 17 .nil)))))) (.go 11 (.take 12 (.take 13 (.take 14 (.go 16 (.go 17 .nil)))))))))))))))))) (by kernel_rfl) (by kernel_rfl) hI0 ?_
  refine' plan_take _ (by rfl) _ (by rfl) ?_ ?_
  rotate_left
  · rintro _ ⟨x, rfl⟩
    have hxm0 := m0 x
    have hxm1 := m1 x
    have hxm2 := m2 x
    have hxm3 := m3 x
    have hxm4 := m4 x
    go_simp
    try with_reducible rfl
  try simp only [Act.put, List.setIfInBounds_toArray, List.set_cons_zero, List.set_cons_succ]
  refine' plan_take _ (by rfl) _ (by rfl) ?_ ?_
  rotate_left
  · rintro _ ⟨x, rfl⟩
    have hxm0 := m0 x
    have hxm1 := m1 x
    have hxm2 := m2 x
    have hxm3 := m3 x
    have hxm4 := m4 x
    go_simp
    try with_reducible rfl
  try simp only [Act.put, List.setIfInBounds_toArray, List.set_cons_zero, List.set_cons_succ]
  refine' plan_take _ (by rfl) _ (by rfl) ?_ ?_
  rotate_left
  · rintro _ ⟨x, rfl⟩
    have hxm0 := m0 x
    have hxm1 := m1 x
    have hxm2 := m2 x
    have hxm3 := m3 x
    have hxm4 := m4 x
    go_simp
    try with_reducible rfl
  try simp only [Act.put, List.setIfInBounds_toArray, List.set_cons_zero, List.set_cons_succ]
  refine' plan_take _ (by rfl) _ (by rfl) ?_ ?_
  rotate_left
  · rintro _ ⟨x, rfl⟩
    have hxm0 := m0 x
    have hxm1 := m1 x
    have hxm2 := m2 x
    have hxm3 := m3 x
    have hxm4 := m4 x
    go_simp
    try with_reducible rfl
  try simp only [Act.put, List.setIfInBounds_toArray, List.set_cons_zero, List.set_cons_succ]
  refine' plan_take _ (by rfl) _ (by rfl) ?_ ?_
  rotate_left
  · rintro _ ⟨x, rfl⟩
    have hxm0 := m0 x
    have hxm1 := m1 x
    have hxm2 := m2 x
    have hxm3 := m3 x
    have hxm4 := m4 x
    go_simp
    try with_reducible rfl
  try simp only [Act.put, List.setIfInBounds_toArray, List.set_cons_zero, List.set_cons_succ]
  refine' plan_take _ (by rfl) _ (by rfl) ?_ ?_
  rotate_left
  · rintro _ ⟨x, rfl⟩
    have hxm0 := m0 x
    have hxm1 := m1 x
    have hxm2 := m2 x
    have hxm3 := m3 x
    have hxm4 := m4 x
    go_simp
    try with_reducible rfl
  try simp only [Act.put, List.setIfInBounds_toArray, List.set_cons_zero, List.set_cons_succ]
  refine' plan_take _ (by rfl) _ (by rfl) ?_ ?_
  rotate_left
  · rintro _ ⟨x, rfl⟩
    have hxm0 := m0 x
    have hxm1 := m1 x
    have hxm2 := m2 x
    have hxm3 := m3 x
    have hxm4 := m4 x
    go_simp
    try with_reducible rfl
  try simp only [Act.put, List.setIfInBounds_toArray, List.set_cons_zero, List.set_cons_succ]
  refine' plan_take _ (by rfl) _ (by rfl) ?_ ?_
  rotate_left
  · rintro _ ⟨x, rfl⟩
    have hxm0 := m0 x
    have hxm1 := m1 x
    have hxm2 := m2 x
    have hxm3 := m3 x
    have hxm4 := m4 x
    go_simp
    try with_reducible rfl
  try simp only [Act.put, List.setIfInBounds_toArray, List.set_cons_zero, List.set_cons_succ]
  refine' plan_take _ (by rfl) _ (by rfl) ?_ ?_
  rotate_left
  · rintro _ ⟨x, rfl⟩
    have hxm0 := m0 x
    have hxm1 := m1 x
    have hxm2 := m2 x
    have hxm3 := m3 x
    have hxm4 := m4 x
    go_simp
    try with_reducible rfl
  try simp only [Act.put, List.setIfInBounds_toArray, List.set_cons_zero, List.set_cons_succ]
  refine' plan_take _ (by rfl) _ (by rfl) ?_ ?_
  rotate_left
  · rintro _ ⟨x, rfl⟩
    have hxm0 := m0 x
    have hxm1 := m1 x
    have hxm2 := m2 x
    have hxm3 := m3 x
    have hxm4 := m4 x
    go_simp
    try with_reducible rfl
  try simp only [Act.put, List.setIfInBounds_toArray, List.set_cons_zero, List.set_cons_succ]
  refine' plan_take _ (by rfl) _ (by rfl) ?_ ?_
  rotate_left
  · rintro _ ⟨x, rfl⟩
    have hxm0 := m0 x
    have hxm1 := m1 x
    have hxm2 := m2 x
    have hxm3 := m3 x
    have hxm4 := m4 x
    go_simp
    try with_reducible rfl
  try simp only [Act.put, List.setIfInBounds_toArray, List.set_cons_zero, List.set_cons_succ]
  refine plan_two ?h1 ?h2
  case' h1 =>
    refine plan_do _ (by rfl) (by rfl) (fun K hK => ?_)
    go_simp
    refine (HG.out.2.1 _ (Below.refl _ w).drew).mono ?_
    rintro e w2 ⟨rfl, hb2⟩
    have T2 := TreeOn.below (w := w.drew) (HG.out.2.2.2.2.2.2.1.below (Below.refl _ _).drew) hb2
    have B2' := (Below.refl w.heap.size w).drew.trans (hb2.mono (Below.refl w.heap.size w).drew.size)
    have B2 := Lib.hid (And.intro T2 B2')
    clear T2 hb2 B2'
    try go_simp
    refine hK.out _ _ (HI.out _ B2.out.1) ?_
    clear hK K
    try simp only [Act.put, List.setIfInBounds_toArray, List.set_cons_zero, List.set_cons_succ]
    refine' plan_take _ (by rfl) _ (by rfl) ?_ ?_
    rotate_left
    · rintro _ ⟨x, rfl⟩
      go_simp
      try with_reducible rfl
    try simp only [Act.put, List.setIfInBounds_toArray, List.set_cons_zero, List.set_cons_succ]
    refine' plan_take _ (by rfl) _ (by rfl) ?_ ?_
    rotate_left
    · rintro _ ⟨x, rfl⟩
      go_simp
      try with_reducible rfl
    try simp only [Act.put, List.setIfInBounds_toArray, List.set_cons_zero, List.set_cons_succ]
    refine' plan_take _ (by rfl) _ (by rfl) ?_ ?_
    rotate_left
    · rintro _ ⟨x, rfl⟩
      go_simp
      try with_reducible rfl
    try simp only [Act.put, List.setIfInBounds_toArray, List.set_cons_zero, List.set_cons_succ]
    refine plan_do _ (by rfl) (by rfl) (fun K hK => ?_)
    go_simp
    have A2 := (Below.refl w2.heap.size w2).alloc (Nat.le_refl _) (.cells #[.int .u64 0, .int .u64 0] 105)
    have TA := B2.out.1.below A2
    have BA := B2.out.2.trans (A2.mono B2.out.2.size)
    have qA := heap_alloc_new w2 (.cells #[.int .u64 0, .int .u64 0] 105)
    have ltA : w.heap.size ≤ w2.heap.size := B2.out.2.size
    clear A2 B2
    generalize w2.alloc (.cells #[.int .u64 0, .int .u64 0] 105) = W at *
    generalize w2.heap.size = b6 at *
    try go_simp
    refine hK.out _ _ (HI.out _ TA) ?_
    clear hK K
    try simp only [Act.put, List.setIfInBounds_toArray, List.set_cons_zero, List.set_cons_succ]
    have c0 : (W).cell? ⟨b6, 0, none⟩ = some (.int .u64 0) := by rw [cell_of_block qA]; rfl
    have c1 : (W).cell? ⟨b6, 1, none⟩ = some (.int .u64 0) := by rw [cell_of_block qA]; rfl
    have f0 : (W).frozen? ⟨b6, 0, none⟩ = false := frozen_of_block qA
    have f1 : (W).frozen? ⟨b6, 1, none⟩ = false := frozen_of_block qA
    have HA := Lib.hid (And.intro TA (And.intro BA (And.intro qA ltA)))
    clear TA BA qA ltA
    refine plan_do _ (by rfl) (by rfl) (fun K hK => ?_)
    go_simp
    have BB := st2_below HA.out.2.1 (HA.out.2.2.2) (.int .u64 k0) (.int .u64 k1)
    have TB : TreeOn ((W.setCell ⟨b6, 0, none⟩ (.int .u64 k0)).setCell ⟨b6, 1, none⟩ (.int .u64 k1)) px ps kind root := HG.out.2.2.2.2.2.2.1.below BB
    clear c0 c1 f0 f1 HA
    generalize ((W.setCell ⟨b6, 0, none⟩ (.int .u64 k0)).setCell ⟨b6, 1, none⟩ (.int .u64 k1)) = W7 at *
    try go_simp
    refine hK.out _ _ (HI.out _ TB) ?_
    clear hK K
    try simp only [Act.put, List.setIfInBounds_toArray, List.set_cons_zero, List.set_cons_succ]
    refine plan_do _ (by rfl) (by rfl) (fun K hK => ?_)
    go_simp
    try go_simp
    refine hK.out _ _ (HI.out _ TB) ?_
    clear hK K
    try simp only [Act.put, List.setIfInBounds_toArray, List.set_cons_zero, List.set_cons_succ]
    refine plan_nil ?_
    have H7 := Lib.hid (And.intro TB BB)
    clear TB BB
    clear w2
  case' h2 =>
    refine plan_do _ (by rfl) (by rfl) (fun K hK => ?_)
    go_simp
    have BA := ((Below.refl w.heap.size w).alloc (Nat.le_refl _) (.cells #[.int .u64 0, .int .u64 0] 105)).drew
    have qA : (w.alloc (.cells #[.int .u64 0, .int .u64 0] 105)).drew.heap[w.heap.size]? = _ := heap_alloc_new w (.cells #[.int .u64 0, .int .u64 0] 105)
    have TA := HG.out.2.2.2.2.2.2.1.below BA
    generalize (w.alloc (.cells #[.int .u64 0, .int .u64 0] 105)).drew = w1 at *
    try go_simp
    refine hK.out _ _ (HI.out _ TA) ?_
    clear hK K
    try simp only [Act.put, List.setIfInBounds_toArray, List.set_cons_zero, List.set_cons_succ]
    have HA0 := Lib.hid (And.intro TA (And.intro BA qA))
    clear TA BA qA
    refine plan_do _ (by rfl) (by rfl) (fun K hK => ?_)
    go_simp
    refine (HG.out.2.1 _ HA0.out.2.1).mono ?_
    rintro e W ⟨rfl, hb2⟩
    have TA := HA0.out.1.below hb2
    have BA := HA0.out.2.1.trans (hb2.mono HA0.out.2.1.size)
    have qA := (hb2.block w.heap.size (Array.getElem?_eq_some_iff.1 HA0.out.2.2).1).trans HA0.out.2.2
    obtain ⟨b6, hb6⟩ : ∃ b6, w.heap.size = b6 := ⟨_, rfl⟩
    have ltA : w.heap.size ≤ b6 := by omega
    rw [hb6] at qA
    simp only [hb6]
    clear hb2 HA0
    try go_simp
    refine hK.out _ _ (HI.out _ TA) ?_
    clear hK K
    try simp only [Act.put, List.setIfInBounds_toArray, List.set_cons_zero, List.set_cons_succ]
    refine' plan_take _ (by rfl) _ (by rfl) ?_ ?_
    rotate_left
    · rintro _ ⟨x, rfl⟩
      go_simp
      try with_reducible rfl
    try simp only [Act.put, List.setIfInBounds_toArray, List.set_cons_zero, List.set_cons_succ]
    refine' plan_take _ (by rfl) _ (by rfl) ?_ ?_
    rotate_left
    · rintro _ ⟨x, rfl⟩
      go_simp
      try with_reducible rfl
    try simp only [Act.put, List.setIfInBounds_toArray, List.set_cons_zero, List.set_cons_succ]
    refine' plan_take _ (by rfl) _ (by rfl) ?_ ?_
    rotate_left
    · rintro _ ⟨x, rfl⟩
      go_simp
      try with_reducible rfl
    try simp only [Act.put, List.setIfInBounds_toArray, List.set_cons_zero, List.set_cons_succ]
    have c0 : (W).cell? ⟨b6, 0, none⟩ = some (.int .u64 0) := by rw [cell_of_block qA]; rfl
    have c1 : (W).cell? ⟨b6, 1, none⟩ = some (.int .u64 0) := by rw [cell_of_block qA]; rfl
    have f0 : (W).frozen? ⟨b6, 0, none⟩ = false := frozen_of_block qA
    have f1 : (W).frozen? ⟨b6, 1, none⟩ = false := frozen_of_block qA
    have HA := Lib.hid (And.intro TA (And.intro BA (And.intro qA ltA)))
    clear TA BA qA ltA
    refine plan_do _ (by rfl) (by rfl) (fun K hK => ?_)
    go_simp
    have BB := st2_below HA.out.2.1 (HA.out.2.2.2) (.int .u64 k0) (.int .u64 k1)
    have TB : TreeOn ((W.setCell ⟨b6, 0, none⟩ (.int .u64 k0)).setCell ⟨b6, 1, none⟩ (.int .u64 k1)) px ps kind root := HG.out.2.2.2.2.2.2.1.below BB
    clear c0 c1 f0 f1 HA
    generalize ((W.setCell ⟨b6, 0, none⟩ (.int .u64 k0)).setCell ⟨b6, 1, none⟩ (.int .u64 k1)) = W7 at *
    try go_simp
    refine hK.out _ _ (HI.out _ TB) ?_
    clear hK K
    try simp only [Act.put, List.setIfInBounds_toArray, List.set_cons_zero, List.set_cons_succ]
    refine plan_do _ (by rfl) (by rfl) (fun K hK => ?_)
    go_simp
    try go_simp
    refine hK.out _ _ (HI.out _ TB) ?_
    clear hK K
    try simp only [Act.put, List.setIfInBounds_toArray, List.set_cons_zero, List.set_cons_succ]
    refine plan_nil ?_
    have H7 := Lib.hid (And.intro TB BB)
    clear TB BB
    clear w1
  all_goals
    clear hI0 hme
    have hme := meth_remove
    have z7 := H7.out.2.size
    have s7 := HG.out.2.2.2.2.2.2.2.below H7.out.2
    have hI7 : I W7.drew := HI.out _ (H7.out.1.below (Below.refl _ _).drew)
    have H2 := Lib.hid (And.intro H7.out.1 (And.intro s7 (Keep.of_below H7.out.2 HG.out.2.2.2.2.2.1)))
    clear s7 H7
    go_wp2_with fail
    refine wp_region_plan I (.take 0 (.take 1 (.take 2 (.take 3 (.take 4 (.take 5 (.take 6 (.take 7 (.take 8 (.take 9 (.take 10 (.two 11 16 (.take 12 (.take 13 (.take 14 (.take 15 (.go 16 (.go 17 (.go 18 (.go 19 .nil)))))))) (.go 11 (.take 12 (.take 13 (.take 14 (.take 15 (.go 17 (.go 18 (.go 19 .nil)))))))))))))))))))) (by kernel_rfl) (by kernel_rfl) hI7 ?_
    clear hI7
    refine' plan_take _ (by rfl) _ (by rfl) ?_ ?_
    rotate_left
    · rintro _ ⟨x, rfl⟩
      have hxm0 := m0 x
      have hxm1 := m1 x
      have hxm2 := m2 x
      have hxm3 := m3 x
      have hxm4 := m4 x
      go_simp
      try with_reducible rfl
    try simp only [Act.put, List.setIfInBounds_toArray, List.set_cons_zero, List.set_cons_succ]
    refine' plan_take _ (by rfl) _ (by rfl) ?_ ?_
    rotate_left
    · rintro _ ⟨x, rfl⟩
      have hxm0 := m0 x
      have hxm1 := m1 x
      have hxm2 := m2 x
      have hxm3 := m3 x
      have hxm4 := m4 x
      go_simp
      try with_reducible rfl
    try simp only [Act.put, List.setIfInBounds_toArray, List.set_cons_zero, List.set_cons_succ]
    refine' plan_take _ (by rfl) _ (by rfl) ?_ ?_
    rotate_left
    · rintro _ ⟨x, rfl⟩
      have hxm0 := m0 x
      have hxm1 := m1 x
      have hxm2 := m2 x
      have hxm3 := m3 x
      have hxm4 := m4 x
      go_simp
      try with_reducible rfl
    try simp only [Act.put, List.setIfInBounds_toArray, List.set_cons_zero, List.set_cons_succ]
    refine' plan_take _ (by rfl) _ (by rfl) ?_ ?_
    rotate_left
    · rintro _ ⟨x, rfl⟩
      have hxm0 := m0 x
      have hxm1 := m1 x
      have hxm2 := m2 x
      have hxm3 := m3 x
      have hxm4 := m4 x
      go_simp
      try with_reducible rfl
    try simp only [Act.put, List.setIfInBounds_toArray, List.set_cons_zero, List.set_cons_succ]
    refine' plan_take _ (by rfl) _ (by rfl) ?_ ?_
    rotate_left
    · rintro _ ⟨x, rfl⟩
      have hxm0 := m0 x
      have hxm1 := m1 x
      have hxm2 := m2 x
      have hxm3 := m3 x
      have hxm4 := m4 x
      go_simp
      try with_reducible rfl
    try simp only [Act.put, List.setIfInBounds_toArray, List.set_cons_zero, List.set_cons_succ]
    refine' plan_take _ (by rfl) _ (by rfl) ?_ ?_
    rotate_left
    · rintro _ ⟨x, rfl⟩
      have hxm0 := m0 x
      have hxm1 := m1 x
      have hxm2 := m2 x
      have hxm3 := m3 x
      have hxm4 := m4 x
      go_simp
      try with_reducible rfl
    try simp only [Act.put, List.setIfInBounds_toArray, List.set_cons_zero, List.set_cons_succ]
    refine' plan_take _ (by rfl) _ (by rfl) ?_ ?_
    rotate_left
    · rintro _ ⟨x, rfl⟩
      have hxm0 := m0 x
      have hxm1 := m1 x
      have hxm2 := m2 x
      have hxm3 := m3 x
      have hxm4 := m4 x
      go_simp
      try with_reducible rfl
    try simp only [Act.put, List.setIfInBounds_toArray, List.set_cons_zero, List.set_cons_succ]
    refine' plan_take _ (by rfl) _ (by rfl) ?_ ?_
    rotate_left
    · rintro _ ⟨x, rfl⟩
      have hxm0 := m0 x
      have hxm1 := m1 x
      have hxm2 := m2 x
      have hxm3 := m3 x
      have hxm4 := m4 x
      go_simp
      try with_reducible rfl
    try simp only [Act.put, List.setIfInBounds_toArray, List.set_cons_zero, List.set_cons_succ]
    refine' plan_take _ (by rfl) _ (by rfl) ?_ ?_
    rotate_left
    · rintro _ ⟨x, rfl⟩
      have hxm0 := m0 x
      have hxm1 := m1 x
      have hxm2 := m2 x
      have hxm3 := m3 x
      have hxm4 := m4 x
      go_simp
      try with_reducible rfl
    try simp only [Act.put, List.setIfInBounds_toArray, List.set_cons_zero, List.set_cons_succ]
    refine' plan_take _ (by rfl) _ (by rfl) ?_ ?_
    rotate_left
    · rintro _ ⟨x, rfl⟩
      have hxm0 := m0 x
      have hxm1 := m1 x
      have hxm2 := m2 x
      have hxm3 := m3 x
      have hxm4 := m4 x
      go_simp
      try with_reducible rfl
    try simp only [Act.put, List.setIfInBounds_toArray, List.set_cons_zero, List.set_cons_succ]
    refine' plan_take _ (by rfl) _ (by rfl) ?_ ?_
    rotate_left
    · rintro _ ⟨x, rfl⟩
      have hxm0 := m0 x
      have hxm1 := m1 x
      have hxm2 := m2 x
      have hxm3 := m3 x
      have hxm4 := m4 x
      go_simp
      try with_reducible rfl
    try simp only [Act.put, List.setIfInBounds_toArray, List.set_cons_zero, List.set_cons_succ]
    refine plan_two ?_ ?_
    case' _ =>
      refine plan_do _ (by rfl) (by rfl) (fun K hK => ?_)
      go_simp
      refine (HG.out.2.2.1 _ _ (H2.out.2.1.drewN 1)).mono ?_
      rintro e w3 ⟨rfl, s3, k3, x3⟩
      have T3 := TreeOn.keep (w := W7.drew) H2.out.1 k3 HG.out.2.2.2.2.1
      have H3 := Lib.hid (And.intro T3 (And.intro s3 (And.intro k3 x3)))
      clear T3 s3 k3 x3
      try go_simp
      refine hK.out _ _ (HI.out _ H3.out.1) ?_
      clear hK K
      try simp only [Act.put, List.setIfInBounds_toArray, List.set_cons_zero, List.set_cons_succ]
      refine' plan_take _ (by rfl) _ (by rfl) ?_ ?_
      rotate_left
      · rintro _ ⟨x, rfl⟩
        go_simp
        try with_reducible rfl
      try simp only [Act.put, List.setIfInBounds_toArray, List.set_cons_zero, List.set_cons_succ]
      refine' plan_take _ (by rfl) _ (by rfl) ?_ ?_
      rotate_left
      · rintro _ ⟨x, rfl⟩
        go_simp
        try with_reducible rfl
      try simp only [Act.put, List.setIfInBounds_toArray, List.set_cons_zero, List.set_cons_succ]
      refine' plan_take _ (by rfl) _ (by rfl) ?_ ?_
      rotate_left
      · rintro _ ⟨x, rfl⟩
        go_simp
        try with_reducible rfl
      try simp only [Act.put, List.setIfInBounds_toArray, List.set_cons_zero, List.set_cons_succ]
      refine' plan_take _ (by rfl) _ (by rfl) ?_ ?_
      rotate_left
      · rintro _ ⟨x, rfl⟩
        go_simp
        try with_reducible rfl
      try simp only [Act.put, List.setIfInBounds_toArray, List.set_cons_zero, List.set_cons_succ]
      refine plan_do _ (by rfl) (by rfl) (fun K hK => ?_)
      go_simp
      have A4 := (Below.refl w3.heap.size w3).alloc (Nat.le_refl _) (.cells #[.int .u64 0, .int .u64 0] 105)
      have TA := H3.out.1.below A4
      have sA := (H3.out.2.1.wide A4).mono (Z := fun k => Y k ∨ k = w3.heap.size) (fun k hk => hk.imp id fun e => ⟨by omega, by simp; omega⟩)
      have kA := (H2.out.2.2.trans (Keep.drewN Y W7 1)).trans (H3.out.2.2.1.trans (H3.out.2.1.keep A4))
      have qA := heap_alloc_new w3 (.cells #[.int .u64 0, .int .u64 0] 105)
      have lA : w.heap.size ≤ w3.heap.size := ((H2.out.2.2.trans (Keep.drewN Y W7 1)).trans H3.out.2.2.1).size
      have xA := H3.out.2.2.2
      clear A4 H3
      generalize w3.alloc (.cells #[.int .u64 0, .int .u64 0] 105) = W at *
      generalize w3.heap.size = b9 at *
      try go_simp
      refine hK.out _ _ (HI.out _ TA) ?_
      clear hK K
      try simp only [Act.put, List.setIfInBounds_toArray, List.set_cons_zero, List.set_cons_succ]
      refine plan_do _ (by rfl) (by rfl) (fun K hK => ?_)
      go_simp
      try go_simp
      refine hK.out _ _ (HI.out _ TA) ?_
      clear hK K
      try simp only [Act.put, List.setIfInBounds_toArray, List.set_cons_zero, List.set_cons_succ]
      have c0 : (W).cell? ⟨b9, 0, none⟩ = some (.int .u64 0) := by rw [cell_of_block qA]; rfl
      have c1 : (W).cell? ⟨b9, 1, none⟩ = some (.int .u64 0) := by rw [cell_of_block qA]; rfl
      have f0 : (W).frozen? ⟨b9, 0, none⟩ = false := frozen_of_block qA
      have f1 : (W).frozen? ⟨b9, 1, none⟩ = false := frozen_of_block qA
      have HA := Lib.hid (And.intro TA (And.intro sA (And.intro kA (And.intro qA lA))))
      have Hx9 := Lib.hid xA
      clear TA sA kA qA lA xA
      refine plan_do _ (by rfl) (by rfl) (fun K hK => ?_)
      go_simp
      have hne : px ≠ b9 := by have := HG.out.2.2.2.2.2.1 px HG.out.2.2.2.2.1; have := HA.out.2.2.2.2; omega
      have qB := st2_heap HA.out.2.2.2.1 (.int .u64 ik) (.int .u64 iv)
      have oB : ∀ k, k ≠ b9 → ((W.setCell ⟨b9, 0, none⟩ (.int .u64 ik)).setCell ⟨b9, 1, none⟩ (.int .u64 iv)).heap[k]? = W.heap[k]? := fun k hk => st2_other hk _ _
      have sB : StOn ((W.setCell ⟨b9, 0, none⟩ (.int .u64 ik)).setCell ⟨b9, 1, none⟩ (.int .u64 iv)) ps S1 Y := (HA.out.2.1.write (Or.inr rfl) HA.out.2.2.2.1 ⟨by decide, by decide⟩ (by simp) (by simp) fun k _ hk => oB k hk).mono fun k hk => Or.inl hk
      have kB : Keep Y w ((W.setCell ⟨b9, 0, none⟩ (.int .u64 ik)).setCell ⟨b9, 1, none⟩ (.int .u64 iv)) := HA.out.2.2.1.trans ⟨rfl, rfl, rfl, by simp, fun k hk => oB k (by have := HG.out.2.2.2.2.2.1 k hk; have := HA.out.2.2.2.2; omega)⟩
      have P9 : DeAt w ((W.setCell ⟨b9, 0, none⟩ (.int .u64 ik)).setCell ⟨b9, 1, none⟩ (.int .u64 iv)) px ps kind root S1 Y b9 ik iv := ⟨(oB px hne).trans HA.out.1, sB, kB, qB, HA.out.2.2.2.2⟩
      clear c0 c1 f0 f1 HA qB oB sB kB hne
      have H9 := Lib.hid P9
      clear P9
      generalize ((W.setCell ⟨b9, 0, none⟩ (.int .u64 ik)).setCell ⟨b9, 1, none⟩ (.int .u64 iv)) = W9 at *
      try go_simp
      refine hK.out _ _ (HI.out _ H9.out.t) ?_
      clear hK K
      try simp only [Act.put, List.setIfInBounds_toArray, List.set_cons_zero, List.set_cons_succ]
      refine plan_do _ (by rfl) (by rfl) (fun K hK => ?_)
      go_simp
      try go_simp
      refine hK.out _ _ (HI.out _ H9.out.t) ?_
      clear hK K
      try simp only [Act.put, List.setIfInBounds_toArray, List.set_cons_zero, List.set_cons_succ]
      refine plan_nil ?_
      clear w3
    rotate_left
    case' _ =>
      refine plan_do _ (by rfl) (by rfl) (fun K hK => ?_)
      go_simp
      have A3 := ((Below.refl W7.heap.size W7).alloc (Nat.le_refl _) (.cells #[.int .u64 0, .int .u64 0] 105)).drew
      have T3 := H2.out.1.below A3
      have qz : (W7.alloc (.cells #[.int .u64 0, .int .u64 0] 105)).drew.heap[W7.heap.size]? = _ := heap_alloc_new W7 (.cells #[.int .u64 0, .int .u64 0] 105)
      have s3 := H2.out.2.1.wide A3
      have z3 : (W7.alloc (.cells #[.int .u64 0, .int .u64 0] 105)).drew.heap.size = W7.heap.size + 1 := by show (W7.alloc _).heap.size = _; simp
      have k3 := H2.out.2.2.trans (H2.out.2.1.keep A3)
      rw [z3] at s3
      clear A3 z3
      generalize (W7.alloc (.cells #[.int .u64 0, .int .u64 0] 105)).drew = w3 at *
      generalize W7.heap.size = b9 at *
      try go_simp
      refine hK.out _ _ (HI.out _ T3) ?_
      clear hK K
      try simp only [Act.put, List.setIfInBounds_toArray, List.set_cons_zero, List.set_cons_succ]
      have H3 := Lib.hid (And.intro T3 (And.intro s3 (And.intro k3 qz)))
      clear T3 s3 k3 qz
      refine plan_do _ (by rfl) (by rfl) (fun K hK => ?_)
      go_simp
      refine (HG.out.2.2.1 _ _ H3.out.2.1).mono ?_
      rintro e W ⟨rfl, s4, k4, x4⟩
      have TA := TreeOn.keep (w := w3) H3.out.1 k4 (Or.inl HG.out.2.2.2.2.1)
      have sA := s4.mono (Z := fun k => Y k ∨ k = b9) (fun k hk => hk.imp id fun e => ⟨by omega, by omega⟩)
      have kA := H3.out.2.2.1.trans (k4.mono (Z := Y) fun k hk => Or.inl hk)
      have qA : W.heap[b9]? = some (.cells #[.int .u64 0, .int .u64 0] 105) := (k4.block b9 (Or.inr ⟨Nat.le_refl _, Nat.lt_succ_self _⟩)).trans H3.out.2.2.2
      have lA := z7
      have xA := x4
      clear s4 k4 x4 H3
      try go_simp
      refine hK.out _ _ (HI.out _ TA) ?_
      clear hK K
      try simp only [Act.put, List.setIfInBounds_toArray, List.set_cons_zero, List.set_cons_succ]
      refine' plan_take _ (by rfl) _ (by rfl) ?_ ?_
      rotate_left
      · rintro _ ⟨x, rfl⟩
        go_simp
        try with_reducible rfl
      try simp only [Act.put, List.setIfInBounds_toArray, List.set_cons_zero, List.set_cons_succ]
      refine' plan_take _ (by rfl) _ (by rfl) ?_ ?_
      rotate_left
      · rintro _ ⟨x, rfl⟩
        go_simp
        try with_reducible rfl
      try simp only [Act.put, List.setIfInBounds_toArray, List.set_cons_zero, List.set_cons_succ]
      refine' plan_take _ (by rfl) _ (by rfl) ?_ ?_
      rotate_left
      · rintro _ ⟨x, rfl⟩
        go_simp
        try with_reducible rfl
      try simp only [Act.put, List.setIfInBounds_toArray, List.set_cons_zero, List.set_cons_succ]
      refine' plan_take _ (by rfl) _ (by rfl) ?_ ?_
      rotate_left
      · rintro _ ⟨x, rfl⟩
        go_simp
        try with_reducible rfl
      try simp only [Act.put, List.setIfInBounds_toArray, List.set_cons_zero, List.set_cons_succ]
      refine plan_do _ (by rfl) (by rfl) (fun K hK => ?_)
      go_simp
      try go_simp
      refine hK.out _ _ (HI.out _ TA) ?_
      clear hK K
      try simp only [Act.put, List.setIfInBounds_toArray, List.set_cons_zero, List.set_cons_succ]
      have c0 : (W).cell? ⟨b9, 0, none⟩ = some (.int .u64 0) := by rw [cell_of_block qA]; rfl
      have c1 : (W).cell? ⟨b9, 1, none⟩ = some (.int .u64 0) := by rw [cell_of_block qA]; rfl
      have f0 : (W).frozen? ⟨b9, 0, none⟩ = false := frozen_of_block qA
      have f1 : (W).frozen? ⟨b9, 1, none⟩ = false := frozen_of_block qA
      have HA := Lib.hid (And.intro TA (And.intro sA (And.intro kA (And.intro qA lA))))
      have Hx9 := Lib.hid xA
      clear TA sA kA qA lA xA
      refine plan_do _ (by rfl) (by rfl) (fun K hK => ?_)
      go_simp
      have hne : px ≠ b9 := by have := HG.out.2.2.2.2.2.1 px HG.out.2.2.2.2.1; have := HA.out.2.2.2.2; omega
      have qB := st2_heap HA.out.2.2.2.1 (.int .u64 ik) (.int .u64 iv)
      have oB : ∀ k, k ≠ b9 → ((W.setCell ⟨b9, 0, none⟩ (.int .u64 ik)).setCell ⟨b9, 1, none⟩ (.int .u64 iv)).heap[k]? = W.heap[k]? := fun k hk => st2_other hk _ _
      have sB : StOn ((W.setCell ⟨b9, 0, none⟩ (.int .u64 ik)).setCell ⟨b9, 1, none⟩ (.int .u64 iv)) ps S1 Y := (HA.out.2.1.write (Or.inr rfl) HA.out.2.2.2.1 ⟨by decide, by decide⟩ (by simp) (by simp) fun k _ hk => oB k hk).mono fun k hk => Or.inl hk
      have kB : Keep Y w ((W.setCell ⟨b9, 0, none⟩ (.int .u64 ik)).setCell ⟨b9, 1, none⟩ (.int .u64 iv)) := HA.out.2.2.1.trans ⟨rfl, rfl, rfl, by simp, fun k hk => oB k (by have := HG.out.2.2.2.2.2.1 k hk; have := HA.out.2.2.2.2; omega)⟩
      have P9 : DeAt w ((W.setCell ⟨b9, 0, none⟩ (.int .u64 ik)).setCell ⟨b9, 1, none⟩ (.int .u64 iv)) px ps kind root S1 Y b9 ik iv := ⟨(oB px hne).trans HA.out.1, sB, kB, qB, HA.out.2.2.2.2⟩
      clear c0 c1 f0 f1 HA qB oB sB kB hne
      have H9 := Lib.hid P9
      clear P9
      generalize ((W.setCell ⟨b9, 0, none⟩ (.int .u64 ik)).setCell ⟨b9, 1, none⟩ (.int .u64 iv)) = W9 at *
      try go_simp
      refine hK.out _ _ (HI.out _ H9.out.t) ?_
      clear hK K
      try simp only [Act.put, List.setIfInBounds_toArray, List.set_cons_zero, List.set_cons_succ]
      refine plan_do _ (by rfl) (by rfl) (fun K hK => ?_)
      go_simp
      try go_simp
      refine hK.out _ _ (HI.out _ H9.out.t) ?_
      clear hK K
      try simp only [Act.put, List.setIfInBounds_toArray, List.set_cons_zero, List.set_cons_succ]
      refine plan_nil ?_
      clear w3
    all_goals
      clear m0 m1 m2 m3 m4 HI
      have t7 := H9.out.t
      simp only [TreeOn] at t7
      have c0 : (W9).cell? ⟨px, 0, none⟩ = some (PV ps) := by rw [cell_of_block t7]; rfl
      have c1 : (W9).cell? ⟨px, 1, none⟩ = some (.int .i64 kind) := by rw [cell_of_block t7]; rfl
      have c2 : (W9).cell? ⟨px, 2, none⟩ = some (.int .i64 0) := by rw [cell_of_block t7]; rfl
      have c3 : (W9).cell? ⟨px, 3, none⟩ = some (.iface 125 (binV ps kind)) := by rw [cell_of_block t7]; rfl
      have c4 : (W9).cell? ⟨px, 4, none⟩ = some (.int .u64 root) := by rw [cell_of_block t7]; rfl
      have f0 : (W9).frozen? ⟨px, 0, none⟩ = false := frozen_of_block t7
      have f1 : (W9).frozen? ⟨px, 1, none⟩ = false := frozen_of_block t7
      have f2 : (W9).frozen? ⟨px, 2, none⟩ = false := frozen_of_block t7
      have f3 : (W9).frozen? ⟨px, 3, none⟩ = false := frozen_of_block t7
      have f4 : (W9).frozen? ⟨px, 4, none⟩ = false := frozen_of_block t7
      have hne : px ≠ b9 := by have := HG.out.2.2.2.2.2.1 px HG.out.2.2.2.2.1; have := H9.out.l; omega
      have t8 : TreeOn (W9.setCell ⟨px, 4, none⟩ (.int .u64 now)) px ps kind now := heap_setCell t7
      have q8 := (heap_setCell_ne (w := W9) (b := px) (i := 4) (v := .int .u64 now) hne.symm).trans H9.out.q
      have s8 : StOn (W9.setCell ⟨px, 4, none⟩ (.int .u64 now)) ps S1 Y := H9.out.st.write HG.out.2.2.2.2.1 t7 ⟨by decide, by decide⟩ (by simp) (by simp) fun k _ hk => heap_setCell_ne hk
      have k8 : Keep (fun k => Y k ∧ k ≠ px) w (W9.setCell ⟨px, 4, none⟩ (.int .u64 now)) := (H9.out.k.mono fun k hk => hk.1).trans ⟨rfl, rfl, rfl, by simp, fun k hk => heap_setCell_ne hk.2⟩
      have e0 : ((W9.setCell ⟨px, 4, none⟩ (.int .u64 now))).cell? ⟨b9, 0, none⟩ = some (.int .u64 ik) := by rw [cell_of_block q8]; rfl
      have e1 : ((W9.setCell ⟨px, 4, none⟩ (.int .u64 now))).cell? ⟨b9, 1, none⟩ = some (.int .u64 iv) := by rw [cell_of_block q8]; rfl
      have H8 := Lib.hid (And.intro t8 (And.intro s8 k8))
      clear t7 t8 s8 k8 hne q8
      go_wp2_with fail
      refine (HG.out.2.2.2.1 _ _ H8.out.2.1 H8.out.1 HG.out.2.2.2.2.1).mono ?_
      rintro e w9 ⟨rfl, s9, k9⟩
      have HF := Lib.hid (And.intro s9 (And.intro (H8.out.2.2.trans (k9.mono fun k hk => hk.1)) (H8.out.1.keep k9 HG.out.2.2.2.2.1)))
      clear s9 k9 H8 c0 c1 c2 c3 c4 f0 f1 f2 f3 f4 e0 e1
      go_wp2_with fail
      go_ret3
      exact ⟨rfl, HF.out.1, HF.out.2.1, HF.out.2.2, Hx9.out⟩
end Go.Proofs.YtepdkbmnkjfcpaaGreatDoor

namespace Go.Proofs.YtepdkbmnkjfcpaaGreatDoor
open Go.RowKit Go.BigFrame Go.Maps Go.WideMaps Lf

set_option maxRecDepth 100000 in
set_option maxHeartbeats 400000 in
theorem map_store {w : World} {pm px ps limit : Nat} (hM : MapOn w pm px ps limit) :
    Calls Tryz.prog 46 #[PV pm] w fun e w' => e = .returned (PV ps) ∧ w = w' := by
  have HG := Lib.hid (map_none hM)
  unfold MapOn at hM
  have c0 : (w).cell? ⟨pm, 0, none⟩ = some (PV ps) := by rw [cell_of_block hM]; rfl
  have c1 : (w).cell? ⟨pm, 1, none⟩ = some (PV px) := by rw [cell_of_block hM]; rfl
  have c2 : (w).cell? ⟨pm, 2, none⟩ = some (.int .i64 limit) := by rw [cell_of_block hM]; rfl
  clear hM
  go_enter Tryz.func46, Tryz.ntmps46
  go_wp2_with fail
  refine HG.out.mono ?_
  rintro e w1 ⟨rfl, rfl⟩
  go_wp2_with fail
  go_ret
  exact ⟨rfl, rfl⟩
set_option maxRecDepth 100000 in
set_option maxHeartbeats 400000 in
theorem map_limit {w : World} {pm px ps limit : Nat} (hM : MapOn w pm px ps limit) :
    Calls Tryz.prog 44 #[PV pm] w fun e w' => e = .returned (.int .i64 limit) ∧ w = w' := by
  have HG := Lib.hid (map_none hM)
  unfold MapOn at hM
  have c0 : (w).cell? ⟨pm, 0, none⟩ = some (PV ps) := by rw [cell_of_block hM]; rfl
  have c1 : (w).cell? ⟨pm, 1, none⟩ = some (PV px) := by rw [cell_of_block hM]; rfl
  have c2 : (w).cell? ⟨pm, 2, none⟩ = some (.int .i64 limit) := by rw [cell_of_block hM]; rfl
  clear hM
  go_enter Tryz.func44, Tryz.ntmps44
  go_wp2_with fail
  refine HG.out.mono ?_
  rintro e w1 ⟨rfl, rfl⟩
  go_wp2_with fail
  go_ret
  exact ⟨rfl, rfl⟩
set_option maxRecDepth 100000 in
set_option maxHeartbeats 800000 in
theorem map_get_none {w : World} {pm px ps limit : Nat} (hM : MapOn w pm px ps limit) (a : List UInt8)
    (hg : Calls Tryz.prog 18 #[PV px, SV a] w fun e w' => e = .returned (.tuple #[.string ⟨#[]⟩, .bool false]) ∧ Below w.heap.size w w') :
    Calls Tryz.prog 31 #[PV pm, SV a] w fun e w' => e = .returned (.tuple #[.string ⟨#[]⟩, .int .i64 5]) ∧ Below w.heap.size w w' := by
  have HG := Lib.hid (And.intro (map_none hM) hg)
  unfold MapOn at hM
  have c0 : (w).cell? ⟨pm, 0, none⟩ = some (PV ps) := by rw [cell_of_block hM]; rfl
  have c1 : (w).cell? ⟨pm, 1, none⟩ = some (PV px) := by rw [cell_of_block hM]; rfl
  have c2 : (w).cell? ⟨pm, 2, none⟩ = some (.int .i64 limit) := by rw [cell_of_block hM]; rfl
  clear hM hg
  go_enter Tryz.func31, Tryz.ntmps31
  go_wp2_with fail
  refine HG.out.1.mono ?_
  rintro e w1 ⟨rfl, rfl⟩
  go_wp2_with fail
  refine HG.out.2.mono ?_
  rintro e w2 ⟨rfl, hb⟩
  have HB := Lib.hid hb
  clear hb
  go_wp2_with fail
  go_ret2
  exact ⟨rfl, HB.out⟩
set_option maxRecDepth 100000 in
set_option maxHeartbeats 800000 in
theorem map_get_some {w : World} {pm px ps limit : Nat} (hM : MapOn w pm px ps limit) (a t : List UInt8)
    (hg : Calls Tryz.prog 18 #[PV px, SV a] w fun e w' => e = .returned (.tuple #[SV t, .bool true]) ∧ Below w.heap.size w w') :
    Calls Tryz.prog 31 #[PV pm, SV a] w fun e w' => e = .returned (.tuple #[SV t, .int .i64 0]) ∧ Below w.heap.size w w' := by
  have HG := Lib.hid (And.intro (map_none hM) hg)
  unfold MapOn at hM
  have c0 : (w).cell? ⟨pm, 0, none⟩ = some (PV ps) := by rw [cell_of_block hM]; rfl
  have c1 : (w).cell? ⟨pm, 1, none⟩ = some (PV px) := by rw [cell_of_block hM]; rfl
  have c2 : (w).cell? ⟨pm, 2, none⟩ = some (.int .i64 limit) := by rw [cell_of_block hM]; rfl
  clear hM hg
  go_enter Tryz.func31, Tryz.ntmps31
  go_wp2_with fail
  refine HG.out.1.mono ?_
  rintro e w1 ⟨rfl, rfl⟩
  go_wp2_with fail
  refine HG.out.2.mono ?_
  rintro e w2 ⟨rfl, hb⟩
  have HB := Lib.hid hb
  clear hb
  go_wp2_with fail
  go_ret2
  exact ⟨rfl, HB.out⟩
set_option maxRecDepth 100000 in
set_option maxHeartbeats 800000 in
theorem map_delete {w : World} {pm px ps limit : Nat} (hM : MapOn w pm px ps limit) (a t : List UInt8) {Q : World → Prop}
    (hg : Calls Tryz.prog 17 #[PV px, SV a] w fun e w' => e = .returned (.tuple #[SV t, .bool true, .int .i64 0]) ∧ Q w') :
    Calls Tryz.prog 32 #[PV pm, SV a] w fun e w' => e = .returned (.tuple #[SV t, .int .i64 0]) ∧ Q w' := by
  have HG := Lib.hid (And.intro (map_none hM) hg)
  unfold MapOn at hM
  have c0 : (w).cell? ⟨pm, 0, none⟩ = some (PV ps) := by rw [cell_of_block hM]; rfl
  have c1 : (w).cell? ⟨pm, 1, none⟩ = some (PV px) := by rw [cell_of_block hM]; rfl
  have c2 : (w).cell? ⟨pm, 2, none⟩ = some (.int .i64 limit) := by rw [cell_of_block hM]; rfl
  clear hM hg
  go_enter Tryz.func32, Tryz.ntmps32
  go_wp2_with fail
  refine HG.out.1.mono ?_
  rintro e w1 ⟨rfl, rfl⟩
  go_wp2_with fail
  refine HG.out.2.mono ?_
  rintro e w2 ⟨rfl, hb⟩
  have HB := Lib.hid hb
  clear hb
  go_wp2_with fail
  go_ret2
  exact ⟨rfl, HB.out⟩

set_option maxRecDepth 100000 in
set_option maxHeartbeats 800000 in
theorem map_select_over {w : World} {pm px ps limit kind root : Nat} {S : St} {Y : Nat → Prop} (h : StOn w ps S Y) (hi : Inv S) (hM : MapOn w pm px ps limit) (hT : TreeOn w px ps kind root) (hl : root < 18446744073709551616) (k : Nat) (hk : k < 4611686018427387904) (hp : walkAtM S root k = some (0, 2)) :
    Calls Tryz.prog 37 #[PV pm, .int .i64 k] w fun e w' => e = .returned (.tuple #[.agg #[.string ⟨#[]⟩, .string ⟨#[]⟩], .int .i64 2]) ∧ Below w.heap.size w w' := by
  have B0 := (Below.refl w.heap.size w).alloc (Nat.le_refl _) (.cells #[.string ⟨#[]⟩, .string ⟨#[]⟩] 38)
  have q0 := heap_alloc_new w (.cells #[.string ⟨#[]⟩, .string ⟨#[]⟩] 38)
  have hM0 := hM.below B0
  have hat := tree_at_ref (hT.below B0) (k : Int) (getNode S 0).1.key (getNode S 0).1.val fun W hW => bin_at ((h.below B0).below hW) hi kind root hl k hk hp (by decide)
  have HG := Lib.hid (And.intro (map_none hM0) (And.intro hat (And.intro B0 q0)))
  unfold MapOn at hM0
  have c0 : ((w.alloc (.cells #[.string ⟨#[]⟩, .string ⟨#[]⟩] 38))).cell? ⟨pm, 0, none⟩ = some (PV ps) := by rw [cell_of_block hM0]; rfl
  have c1 : ((w.alloc (.cells #[.string ⟨#[]⟩, .string ⟨#[]⟩] 38))).cell? ⟨pm, 1, none⟩ = some (PV px) := by rw [cell_of_block hM0]; rfl
  have c2 : ((w.alloc (.cells #[.string ⟨#[]⟩, .string ⟨#[]⟩] 38))).cell? ⟨pm, 2, none⟩ = some (.int .i64 limit) := by rw [cell_of_block hM0]; rfl
  clear hM hM0 h hi hT hp hat B0 q0
  go_enter Tryz.func37, Tryz.ntmps37
  go_wp2_with fail
  refine HG.out.1.mono ?_
  rintro e w1 ⟨rfl, rfl⟩
  go_wp2_with fail
  refine HG.out.2.1.mono ?_
  rintro e w2 ⟨rfl, hb⟩
  have q2 := (hb.block w.heap.size (by simp)).trans HG.out.2.2.2
  have d0 : (w2).cell? ⟨w.heap.size, 0, none⟩ = some (.string ⟨#[]⟩) := by rw [cell_of_block q2]; rfl
  have d1 : (w2).cell? ⟨w.heap.size, 1, none⟩ = some (.string ⟨#[]⟩) := by rw [cell_of_block q2]; rfl
  have f0 : (w2).frozen? ⟨w.heap.size, 0, none⟩ = false := frozen_of_block q2
  have f1 : (w2).frozen? ⟨w.heap.size, 1, none⟩ = false := frozen_of_block q2
  have q3 := st2_heap q2 (.string ⟨#[]⟩) (.string ⟨#[]⟩)
  have B3 := st2_below (HG.out.2.2.1.trans (hb.mono HG.out.2.2.1.size)) (Nat.le_refl _) (.string ⟨#[]⟩) (.string ⟨#[]⟩)
  have HB := Lib.hid (And.intro q3 B3)
  clear hb q2 q3 B3
  go_wp2_with fail
  obtain ⟨q3, B3⟩ := HB.out
  generalize ((w2.setCell ⟨w.heap.size, 0, none⟩ (.string ⟨#[]⟩)).setCell ⟨w.heap.size, 1, none⟩ (.string ⟨#[]⟩)) = w3 at *
  have e0 : (w3).cell? ⟨w.heap.size, 0, none⟩ = some (.string ⟨#[]⟩) := by rw [cell_of_block q3]; rfl
  have e1 : (w3).cell? ⟨w.heap.size, 1, none⟩ = some (.string ⟨#[]⟩) := by rw [cell_of_block q3]; rfl
  exact bodyPost_ret (v := .tuple #[.agg #[.string ⟨#[]⟩, .string ⟨#[]⟩], .int .i64 2]) (by simp [results, Tryz.f37, go_sem, e0, e1]) rfl ⟨rfl, B3⟩

set_option maxRecDepth 100000 in
set_option maxHeartbeats 400000 in
theorem compact_new {w : World} {ps : Nat} {S : St} {Y : Nat → Prop} (h : StOn w ps S Y) (hi : Inv S) :
    Calls Tryz.prog 118 #[PV ps] w fun e w' => ∃ pp, e = .returned (.tuple #[PV pp, .int .i64 0]) ∧ Below w.heap.size w w' := by
  have hlen := st_len h hi 0 (by omega)
  rw [len_zero] at hlen
  have HG := Lib.hid hlen
  clear hlen h hi
  go_enter Tryz.func118, Tryz.ntmps118
  go_wp2_with fail
  refine HG.out.mono ?_
  rintro e w1 ⟨rfl, rfl⟩
  go_wp2_with fail
  go_ret2
  exact ⟨w.heap.size, rfl, (Below.refl _ w).alloc (Nat.le_refl _) _⟩
end Go.Proofs.YtepdkbmnkjfcpaaGreatDoor

namespace Go.Proofs.YtepdkbmnkjfcpaaGreatDoor
open Go.RowKit Go.BigFrame Go.Maps Go.WideMaps Lf

/-- a cursor in memory -/
def CurOn (w : World) (pc pm ps hh is : Nat) : Prop := w.heap[pc]? = some (.cells #[PV pm, PV ps, .int .u64 hh, .int .i64 is] 82)
theorem CurOn.below {w w' : World} {pc pm ps hh is : Nat} (h : CurOn w pc pm ps hh is) (hb : Below w.heap.size w w') : CurOn w' pc pm ps hh is := (hb.block pc (Array.getElem?_eq_some_iff.1 h).1).trans h
theorem CurOn.keep {w w' : World} {pc pm ps hh is : Nat} {Y : Nat → Prop} (h : CurOn w pc pm ps hh is) (hk : Keep Y w w') (hy : Y pc) : CurOn w' pc pm ps hh is := (hk.block pc hy).trans h
theorem cur_class (pc pm ps hh is : Nat) : ∃ I : World → Prop, (∀ w', I w' → CurOn w' pc pm ps hh is) ∧ (∀ w', CurOn w' pc pm ps hh is → I w') := ⟨fun w' => CurOn w' pc pm ps hh is, fun _ h => h, fun _ a => a⟩

/-- what putting a row of words, as far as a record has room for it, leaves -/
def Lf.curPut (S : St) (hh : Nat) (ws : List Nat) : Nat → St
  | 0 => S
  | n + 1 => ((curPut S hh ws n).put hh n (ws.getD n 0)).2
theorem curPut_inv {S : St} (hi : Inv S) (hh : Nat) (ws : List Nat) : ∀ n, Inv (curPut S hh ws n)
  | 0 => hi
  | n + 1 => (curPut_inv hi hh ws n).put hh n _

set_option maxRecDepth 100000 in
set_option maxHeartbeats 400000 in
theorem cur_asked {w : World} {pc pm ps hh is : Nat} (hC : CurOn w pc pm ps hh is) (h0 : hh ≠ 0) :
    Calls Tryz.prog 87 #[PV pc] w fun e w' => e = .returned (.int .i64 0) ∧ w = w' := by
  unfold CurOn at hC
  have c0 : (w).cell? ⟨pc, 0, none⟩ = some (PV pm) := by rw [cell_of_block hC]; rfl
  have c1 : (w).cell? ⟨pc, 1, none⟩ = some (PV ps) := by rw [cell_of_block hC]; rfl
  have c2 : (w).cell? ⟨pc, 2, none⟩ = some (.int .u64 hh) := by rw [cell_of_block hC]; rfl
  have c3 : (w).cell? ⟨pc, 3, none⟩ = some (.int .i64 is) := by rw [cell_of_block hC]; rfl
  have hq : ((hh : Int) = 0) = False := eq_false (by omega)
  clear hC
  go_enter Tryz.func87, Tryz.ntmps87
  go_wp2_with fail
  go_ret
  exact ⟨rfl, rfl⟩

set_option maxRecDepth 100000 in
set_option maxHeartbeats 3200000 in
theorem cur_put {w : World} {pc pm px ps hh is limit : Nat} {S : St} {Y : Nat → Prop} (h : StOn w ps S Y) (hi : Inv S) (hM : MapOn w pm px ps limit) (hC : CurOn w pc pm ps hh is) (hyc : Y pc) (hl : hh < 18446744073709551616) (hlim : limit ≤ 1000) (l : List UInt8) (hll : l.length ≤ 1000) :
    Calls Tryz.prog 90 #[PV pc, SV l] w fun e w' => e = .returned (.tuple #[]) ∧ StOn w' ps (curPut S hh (wordsOf l) (many limit)) Y ∧ Keep (fun k => Y k ∧ k ≠ pc) w w' ∧ CurOn w' pc pm ps hh 1 := by
  have hwo := fun W => text_words l W hll
  have hwl := wordsOf_lt l (by omega)
  have hli := fun W (hW : MapOn W pm px ps limit) => map_limit hW
  have hma := fun W => text_many limit W (by omega)
  have hml : many limit ≤ 200 := by unfold many; split <;> omega
  obtain ⟨ws, hws⟩ : ∃ ws, wordsOf l = ws := ⟨_, rfl⟩
  rw [hws] at hwo hwl ⊢
  obtain ⟨m, hm⟩ : ∃ m, many limit = m := ⟨_, rfl⟩
  rw [hm] at hma hml ⊢
  obtain ⟨n, hn⟩ : ∃ n, ws.length = n := ⟨_, rfl⟩
  obtain ⟨I, hIi, hIo⟩ := cur_class pc pm ps hh is
  have hy0 := fun x : Keeps I => hIi _ x.ok
  simp only [CurOn] at hy0
  have m0 : ∀ x : Keeps I, x.to.cell? ⟨pc, 0, none⟩ = some (PV pm) := fun x => by rw [cell_of_block (hy0 x)]; rfl
  have m1 : ∀ x : Keeps I, x.to.cell? ⟨pc, 1, none⟩ = some (PV ps) := fun x => by rw [cell_of_block (hy0 x)]; rfl
  have m2 : ∀ x : Keeps I, x.to.cell? ⟨pc, 2, none⟩ = some (.int .u64 hh) := fun x => by rw [cell_of_block (hy0 x)]; rfl
  have m3 : ∀ x : Keeps I, x.to.cell? ⟨pc, 3, none⟩ = some (.int .i64 is) := fun x => by rw [cell_of_block (hy0 x)]; rfl
  have HG := Lib.hid (And.intro hwo (And.intro hli (And.intro hma (And.intro h (And.intro hM (And.intro hC (And.intro hwl (And.intro hi (And.intro hn hIo)))))))))
  clear hwo hli hma h hM hC hwl hi hn hIi hIo hy0 hws hm hll hlim
  go_enter Tryz.func90, Tryz.ntmps90
  go_wp2_with fail
  refine (HG.out.1 _).mono ?_
  rintro e w1 ⟨v, rfl, hrow, hb⟩
  have h1 := HG.out.2.2.2.1.wide hb
  have hM1 := HG.out.2.2.2.2.1.below hb
  have hC1 := HG.out.2.2.2.2.2.1.below hb
  have hrow' := hrow
  obtain ⟨G, cp, rfl, _, _⟩ := hrow'
  have hn := HG.out.2.2.2.2.2.2.2.2.1
  rw [hn] at hrow
  simp only [hn]
  have H1 := Lib.hid (And.intro hrow (And.intro hb (And.intro h1 (And.intro hM1 hC1))))
  unfold CurOn at hC1
  have c0 : (w1).cell? ⟨pc, 0, none⟩ = some (PV pm) := by rw [cell_of_block hC1]; rfl
  have c1 : (w1).cell? ⟨pc, 1, none⟩ = some (PV ps) := by rw [cell_of_block hC1]; rfl
  have c2 : (w1).cell? ⟨pc, 2, none⟩ = some (.int .u64 hh) := by rw [cell_of_block hC1]; rfl
  have c3 : (w1).cell? ⟨pc, 3, none⟩ = some (.int .i64 is) := by rw [cell_of_block hC1]; rfl
  clear hrow hb h1 hM1 hC1 hn
  go_wp2_with fail
  refine (HG.out.2.1 _ H1.out.2.2.2.1).mono ?_
  rintro e w2 ⟨rfl, rfl⟩
  go_wp2_with fail
  refine (HG.out.2.2.1 _).mono ?_
  rintro e w3 ⟨rfl, rfl⟩
  go_wp2_with fail
  obtain ⟨Z, hZ⟩ : ∃ Z : Nat → Prop, (fun k => Y k ∨ (w.heap.size ≤ k ∧ k < w1.heap.size)) = Z := ⟨_, rfl⟩
  have h1 := H1.out.2.2.1
  rw [hZ] at h1
  have hZY : ∀ k, Y k → Z k := fun k hk => by rw [← hZ]; exact Or.inl hk
  have hZN : ∀ k, w.heap.size ≤ k → k < w1.heap.size → Z k := fun k h1 h2 => by rw [← hZ]; exact Or.inr ⟨h1, h2⟩
  have HZ := Lib.hid (And.intro h1 (And.intro hZY hZN))
  clear h1 hZY hZN hZ
  go_loopw [6, 7, 19] (fun _ _ i wr => ∃ k : Nat, k ≤ m ∧ i = .int .i64 k ∧ StOn wr ps (curPut S hh ws k) Z ∧ Keep Z w1 wr) (fun _ _ i _ => m - (intOf i).toNat)
  case atStart => exact ⟨0, by omega, rfl, HZ.out.1, Keep.refl _ _⟩
  case round =>
    obtain ⟨k, hk, rfl, hSk, hkk⟩ := hrel
    have hCk := H1.out.2.2.2.2.keep hkk (HZ.out.2.1 _ hyc)
    by_cases hlt : k < m
    · have hlt' : (k : Int) < m := by omega
      have hI0 : I wr.drew := HG.out.2.2.2.2.2.2.2.2.2 _ (hCk.below (Below.refl _ _).drew)
      by_cases hlw : k < n
      · have hlw' : (k : Int) < n := by omega
        have hlz : k < ws.length := by rw [HG.out.2.2.2.2.2.2.2.2.1]; exact hlw
        obtain ⟨G', c', he, _, hcs⟩ := H1.out.1.keep hkk HZ.out.2.2
        injection he with he1 he2 he3
        injection he1 with he1
        injection he1 with he1
        subst he1
        have c1 := hcs k hlz
        have hx := HG.out.2.2.2.2.2.2.1 _ (List.getElem_mem hlz)
        have hd : curPut S hh ws (k + 1) = ((curPut S hh ws k).put hh k ws[k]).2 := by
          show ((curPut S hh ws k).put hh k (ws.getD k 0)).2 = _
          rw [List.getD_eq_getElem?_getD, List.getElem?_eq_getElem hlz]; rfl
        have hpu := st_put (hSk.below (Below.refl _ _).drew) (curPut_inv HG.out.2.2.2.2.2.2.2.1 hh ws k) hh k ws[k] hl (by omega) hx
        rw [← hd] at hpu
        generalize ws[k] = x at *
        have HK := Lib.hid (And.intro hpu (And.intro hkk hCk))
        clear hpu hkk hcs hd hSk hCk he2 he3
        go_wp2_with fail
        refine wp_region_plan I (.take 0 (.take 1 (.take 2 (.take 3 (.take 4 (.take 5 (.take 6 (.take 7 (.take 8 (.take 9 (.go 10 .nil))))))))))) (by kernel_rfl) (by kernel_rfl) hI0 ?_
        clear hI0
        refine' plan_take _ (by rfl) _ (by rfl) ?_ ?_
        rotate_left
        · rintro _ ⟨x, rfl⟩
          have hxm1 := m1 x
          have hxm2 := m2 x
          go_simp
          try with_reducible rfl
        try simp only [Act.put, List.setIfInBounds_toArray, List.set_cons_zero, List.set_cons_succ]
        refine' plan_take _ (by rfl) _ (by rfl) ?_ ?_
        rotate_left
        · rintro _ ⟨x, rfl⟩
          have hxm1 := m1 x
          have hxm2 := m2 x
          go_simp
          try with_reducible rfl
        try simp only [Act.put, List.setIfInBounds_toArray, List.set_cons_zero, List.set_cons_succ]
        refine' plan_take _ (by rfl) _ (by rfl) ?_ ?_
        rotate_left
        · rintro _ ⟨x, rfl⟩
          have hxm1 := m1 x
          have hxm2 := m2 x
          go_simp
          try with_reducible rfl
        try simp only [Act.put, List.setIfInBounds_toArray, List.set_cons_zero, List.set_cons_succ]
        refine' plan_take _ (by rfl) _ (by rfl) ?_ ?_
        rotate_left
        · rintro _ ⟨x, rfl⟩
          have hxm1 := m1 x
          have hxm2 := m2 x
          go_simp
          try with_reducible rfl
        try simp only [Act.put, List.setIfInBounds_toArray, List.set_cons_zero, List.set_cons_succ]
        refine' plan_take _ (by rfl) _ (by rfl) ?_ ?_
        rotate_left
        · rintro _ ⟨x, rfl⟩
          have hxm1 := m1 x
          have hxm2 := m2 x
          go_simp
          try with_reducible rfl
        try simp only [Act.put, List.setIfInBounds_toArray, List.set_cons_zero, List.set_cons_succ]
        refine' plan_take _ (by rfl) _ (by rfl) ?_ ?_
        rotate_left
        · rintro _ ⟨x, rfl⟩
          have hxm1 := m1 x
          have hxm2 := m2 x
          go_simp
          try with_reducible rfl
        try simp only [Act.put, List.setIfInBounds_toArray, List.set_cons_zero, List.set_cons_succ]
        refine' plan_take _ (by rfl) _ (by rfl) ?_ ?_
        rotate_left
        · rintro _ ⟨x, rfl⟩
          have hxm1 := m1 x
          have hxm2 := m2 x
          go_simp
          try with_reducible rfl
        try simp only [Act.put, List.setIfInBounds_toArray, List.set_cons_zero, List.set_cons_succ]
        refine' plan_take _ (by rfl) _ (by rfl) ?_ ?_
        rotate_left
        · rintro _ ⟨x, rfl⟩
          have hxm1 := m1 x
          have hxm2 := m2 x
          go_simp
          try with_reducible rfl
        try simp only [Act.put, List.setIfInBounds_toArray, List.set_cons_zero, List.set_cons_succ]
        refine' plan_take _ (by rfl) _ (by rfl) ?_ ?_
        rotate_left
        · rintro _ ⟨x, rfl⟩
          have hxm1 := m1 x
          have hxm2 := m2 x
          go_simp
          try with_reducible rfl
        try simp only [Act.put, List.setIfInBounds_toArray, List.set_cons_zero, List.set_cons_succ]
        refine' plan_take _ (by rfl) _ (by rfl) ?_ ?_
        rotate_left
        · rintro _ ⟨x, rfl⟩
          have hxm1 := m1 x
          have hxm2 := m2 x
          go_simp
          try with_reducible rfl
        try simp only [Act.put, List.setIfInBounds_toArray, List.set_cons_zero, List.set_cons_succ]
        refine plan_do _ (by rfl) (by rfl) (fun K hK => ?_)
        go_simp
        refine HK.out.1.mono ?_
        rintro e w4 ⟨rfl, h4, k4⟩
        have hk4 := (HK.out.2.1.trans (Keep.drewN Z wr 1)).trans k4
        have hC4 := H1.out.2.2.2.2.keep hk4 (HZ.out.2.1 _ hyc)
        try go_simp
        refine hK.out _ _ (HG.out.2.2.2.2.2.2.2.2.2 _ hC4) ?_
        clear hK K
        try simp only [Act.put, List.setIfInBounds_toArray, List.set_cons_zero, List.set_cons_succ]
        have H4 := Lib.hid (And.intro h4 hk4)
        clear h4 k4 hk4 hC4
        refine plan_nil ?_
        go_wp2_with fail
        go_roundw
        case rel => exact ⟨k + 1, by omega, by simp, H4.out.1, H4.out.2⟩
        case measure => simp [intOf]; omega
      · have hlw' : ¬ (k : Int) < n := by omega
        have hd : curPut S hh ws (k + 1) = ((curPut S hh ws k).put hh k 0).2 := by
          show ((curPut S hh ws k).put hh k (ws.getD k 0)).2 = _
          rw [List.getD_eq_getElem?_getD, List.getElem?_eq_none (by have := HG.out.2.2.2.2.2.2.2.2.1; omega)]; rfl
        have hpu := st_put (hSk.below (Below.refl _ _).drew) (curPut_inv HG.out.2.2.2.2.2.2.2.1 hh ws k) hh k 0 hl (by omega) (by omega)
        rw [← hd] at hpu
        have HK := Lib.hid (And.intro hpu (And.intro hkk hCk))
        clear hpu hkk hd hSk hCk
        go_wp2_with fail
        refine wp_region_plan I (.take 0 (.take 1 (.take 2 (.take 3 (.take 4 (.take 5 (.take 6 (.take 7 (.take 8 (.take 9 (.go 10 .nil))))))))))) (by kernel_rfl) (by kernel_rfl) hI0 ?_
        clear hI0
        refine' plan_take _ (by rfl) _ (by rfl) ?_ ?_
        rotate_left
        · rintro _ ⟨x, rfl⟩
          have hxm1 := m1 x
          have hxm2 := m2 x
          go_simp
          try with_reducible rfl
        try simp only [Act.put, List.setIfInBounds_toArray, List.set_cons_zero, List.set_cons_succ]
        refine' plan_take _ (by rfl) _ (by rfl) ?_ ?_
        rotate_left
        · rintro _ ⟨x, rfl⟩
          have hxm1 := m1 x
          have hxm2 := m2 x
          go_simp
          try with_reducible rfl
        try simp only [Act.put, List.setIfInBounds_toArray, List.set_cons_zero, List.set_cons_succ]
        refine' plan_take _ (by rfl) _ (by rfl) ?_ ?_
        rotate_left
        · rintro _ ⟨x, rfl⟩
          have hxm1 := m1 x
          have hxm2 := m2 x
          go_simp
          try with_reducible rfl
        try simp only [Act.put, List.setIfInBounds_toArray, List.set_cons_zero, List.set_cons_succ]
        refine' plan_take _ (by rfl) _ (by rfl) ?_ ?_
        rotate_left
        · rintro _ ⟨x, rfl⟩
          have hxm1 := m1 x
          have hxm2 := m2 x
          go_simp
          try with_reducible rfl
        try simp only [Act.put, List.setIfInBounds_toArray, List.set_cons_zero, List.set_cons_succ]
        refine' plan_take _ (by rfl) _ (by rfl) ?_ ?_
        rotate_left
        · rintro _ ⟨x, rfl⟩
          have hxm1 := m1 x
          have hxm2 := m2 x
          go_simp
          try with_reducible rfl
        try simp only [Act.put, List.setIfInBounds_toArray, List.set_cons_zero, List.set_cons_succ]
        refine' plan_take _ (by rfl) _ (by rfl) ?_ ?_
        rotate_left
        · rintro _ ⟨x, rfl⟩
          have hxm1 := m1 x
          have hxm2 := m2 x
          go_simp
          try with_reducible rfl
        try simp only [Act.put, List.setIfInBounds_toArray, List.set_cons_zero, List.set_cons_succ]
        refine' plan_take _ (by rfl) _ (by rfl) ?_ ?_
        rotate_left
        · rintro _ ⟨x, rfl⟩
          have hxm1 := m1 x
          have hxm2 := m2 x
          go_simp
          try with_reducible rfl
        try simp only [Act.put, List.setIfInBounds_toArray, List.set_cons_zero, List.set_cons_succ]
        refine' plan_take _ (by rfl) _ (by rfl) ?_ ?_
        rotate_left
        · rintro _ ⟨x, rfl⟩
          have hxm1 := m1 x
          have hxm2 := m2 x
          go_simp
          try with_reducible rfl
        try simp only [Act.put, List.setIfInBounds_toArray, List.set_cons_zero, List.set_cons_succ]
        refine' plan_take _ (by rfl) _ (by rfl) ?_ ?_
        rotate_left
        · rintro _ ⟨x, rfl⟩
          have hxm1 := m1 x
          have hxm2 := m2 x
          go_simp
          try with_reducible rfl
        try simp only [Act.put, List.setIfInBounds_toArray, List.set_cons_zero, List.set_cons_succ]
        refine' plan_take _ (by rfl) _ (by rfl) ?_ ?_
        rotate_left
        · rintro _ ⟨x, rfl⟩
          have hxm1 := m1 x
          have hxm2 := m2 x
          go_simp
          try with_reducible rfl
        try simp only [Act.put, List.setIfInBounds_toArray, List.set_cons_zero, List.set_cons_succ]
        refine plan_do _ (by rfl) (by rfl) (fun K hK => ?_)
        go_simp
        refine HK.out.1.mono ?_
        rintro e w4 ⟨rfl, h4, k4⟩
        have hk4 := (HK.out.2.1.trans (Keep.drewN Z wr 1)).trans k4
        have hC4 := H1.out.2.2.2.2.keep hk4 (HZ.out.2.1 _ hyc)
        try go_simp
        refine hK.out _ _ (HG.out.2.2.2.2.2.2.2.2.2 _ hC4) ?_
        clear hK K
        try simp only [Act.put, List.setIfInBounds_toArray, List.set_cons_zero, List.set_cons_succ]
        have H4 := Lib.hid (And.intro h4 hk4)
        clear h4 k4 hk4 hC4
        refine plan_nil ?_
        go_wp2_with fail
        go_roundw
        case rel => exact ⟨k + 1, by omega, by simp, H4.out.1, H4.out.2⟩
        case measure => simp [intOf]; omega
    · obtain rfl : k = m := by omega
      have hC' := hCk
      unfold CurOn at hC'
      have d0 : (wr).cell? ⟨pc, 0, none⟩ = some (PV pm) := by rw [cell_of_block hC']; rfl
      have d1 : (wr).cell? ⟨pc, 1, none⟩ = some (PV ps) := by rw [cell_of_block hC']; rfl
      have d2 : (wr).cell? ⟨pc, 2, none⟩ = some (.int .u64 hh) := by rw [cell_of_block hC']; rfl
      have d3 : (wr).cell? ⟨pc, 3, none⟩ = some (.int .i64 is) := by rw [cell_of_block hC']; rfl
      have f0 : (wr).frozen? ⟨pc, 0, none⟩ = false := frozen_of_block hC'
      have f1 : (wr).frozen? ⟨pc, 1, none⟩ = false := frozen_of_block hC'
      have f2 : (wr).frozen? ⟨pc, 2, none⟩ = false := frozen_of_block hC'
      have f3 : (wr).frozen? ⟨pc, 3, none⟩ = false := frozen_of_block hC'
      have q4 := heap_setCell (i := 3) (v := .int .i64 1) hC'
      have s4 : StOn (wr.setCell ⟨pc, 3, none⟩ (.int .i64 1)) ps (curPut S hh ws k) Z := hSk.write (HZ.out.2.1 _ hyc) hC' ⟨by decide, by decide⟩ (by simp) (by simp) fun k _ hk => heap_setCell_ne hk
      have k4 : Keep (fun k => Y k ∧ k ≠ pc) w (wr.setCell ⟨pc, 3, none⟩ (.int .i64 1)) := ((Keep.of_below H1.out.2.1 fun k hk => HG.out.2.2.2.1.yl k hk.1).trans (hkk.mono fun k hk => HZ.out.2.1 k hk.1)).trans ⟨rfl, rfl, rfl, by simp, fun k hk => heap_setCell_ne hk.2⟩
      have HK := Lib.hid (And.intro (s4.mono HZ.out.2.1) (And.intro k4 q4))
      clear s4 k4 q4 hSk hkk hCk hC'
      go_wp2_with fail
      go_end0
      exact ⟨rfl, HK.out.1, HK.out.2.1, HK.out.2.2⟩
end Go.Proofs.YtepdkbmnkjfcpaaGreatDoor
