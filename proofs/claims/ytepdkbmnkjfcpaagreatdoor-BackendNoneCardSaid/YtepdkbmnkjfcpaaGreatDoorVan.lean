/- Trees of any face: none, Len, Rank, At, Get: the walks. -/
import Derived.Test.YtepdkbmnkjfcpaaGreatDoorVam
set_option maxRecDepth 100000
set_option maxHeartbeats 1600000
namespace Go.Proofs.YtepdkbmnkjfcpaaGreatDoor
open Go.RowKit Go.BigFrame Go.Maps Go.WideMaps Lf
def TreeF (w : World) (px ps : Nat) (ty : TypeId) (kv : Value) (kind td root : Nat) : Prop := w.heap[px]? = some (.cells #[PV ps, .int .i64 kind, .int .i64 td, .iface ty kv, .int .u64 root] 45)
theorem TreeF.below {w w' : World} {px ps kind td root : Nat} {ty : TypeId} {kv : Value} (h : TreeF w px ps ty kv kind td root) (hb : Below w.heap.size w w') : TreeF w' px ps ty kv kind td root := (hb.block px (Array.getElem?_eq_some_iff.1 h).1).trans h
theorem TreeF.keep {w w' : World} {px ps kind td root : Nat} {ty : TypeId} {kv : Value} {Y : Nat → Prop} (h : TreeF w px ps ty kv kind td root) (hk : Keep Y w w') (hy : Y px) : TreeF w' px ps ty kv kind td root := (hk.block px hy).trans h
theorem treeF_none {w : World} {px ps kind td root : Nat} {ty : TypeId} {kv : Value} (hT : TreeF w px ps ty kv kind td root) :
    Calls Tryz.prog 70 #[PV px] w fun e w' => e = .returned (.bool false) ∧ w = w' := by
  unfold TreeF at hT
  have c0 : (w).cell? ⟨px, 0, none⟩ = some (PV ps) := by rw [cell_of_block hT]; rfl
  have c1 : (w).cell? ⟨px, 1, none⟩ = some (.int .i64 kind) := by rw [cell_of_block hT]; rfl
  have c2 : (w).cell? ⟨px, 2, none⟩ = some (.int .i64 td) := by rw [cell_of_block hT]; rfl
  have c3 : (w).cell? ⟨px, 3, none⟩ = some (.iface ty kv) := by rw [cell_of_block hT]; rfl
  have c4 : (w).cell? ⟨px, 4, none⟩ = some (.int .u64 root) := by rw [cell_of_block hT]; rfl
  clear hT
  go_enter Tryz.func70, Tryz.ntmps70
  go_wp2_with fail
  go_ret
  exact ⟨rfl, rfl⟩
theorem treeF_class (px ps : Nat) (ty : TypeId) (kv : Value) (kind td root : Nat) : ∃ I : World → Prop, (∀ w', I w' → TreeF w' px ps ty kv kind td root) ∧ (∀ w', TreeF w' px ps ty kv kind td root → I w') := ⟨fun w' => TreeF w' px ps ty kv kind td root, fun _ h => h, fun _ a => a⟩
theorem treeF_len {w : World} {px ps kind td root : Nat} {ty : TypeId} {kv : Value} (hT : TreeF w px ps ty kv kind td root) {z : Nat} {fm : FuncId} (hme : ∀ (f : Nat) (v : Value) (w : World), (method (f + 1) ty v "loft/backend.size").run Tryz.prog w = .ok (fm, v) w) (hen : ∀ (args : Array Value) (w : World), (callFunc fm args).run Tryz.prog w = .ok (.enter fm args) w) (hs : ∀ W, Below w.heap.size w W → Calls Tryz.prog fm #[kv, .int .u64 root] W fun e w' => e = .returned (.int .i64 z) ∧ Below W.heap.size W w') :
    Calls Tryz.prog 24 #[PV px] w fun e w' => e = .returned (.int .i64 z) ∧ Below w.heap.size w w' := by
  have hn := treeF_none hT
  have hs := hs _ (Below.refl _ w).drew
  obtain ⟨I, hIi, hIo⟩ := treeF_class px ps ty kv kind td root
  have hy0 := fun x : Keeps I => hIi _ x.ok
  simp only [TreeF] at hy0
  have m0 : ∀ x : Keeps I, x.to.cell? ⟨px, 0, none⟩ = some (PV ps) := fun x => by rw [cell_of_block (hy0 x)]; rfl
  have m1 : ∀ x : Keeps I, x.to.cell? ⟨px, 1, none⟩ = some (.int .i64 kind) := fun x => by rw [cell_of_block (hy0 x)]; rfl
  have m2 : ∀ x : Keeps I, x.to.cell? ⟨px, 2, none⟩ = some (.int .i64 td) := fun x => by rw [cell_of_block (hy0 x)]; rfl
  have m3 : ∀ x : Keeps I, x.to.cell? ⟨px, 3, none⟩ = some (.iface ty kv) := fun x => by rw [cell_of_block (hy0 x)]; rfl
  have m4 : ∀ x : Keeps I, x.to.cell? ⟨px, 4, none⟩ = some (.int .u64 root) := fun x => by rw [cell_of_block (hy0 x)]; rfl
  have hI0 : I w.drew := hIo _ hT
  have HG := Lib.hid (And.intro hn (And.intro hs (And.intro hT hIo)))
  clear hn hs hT hIi hIo hy0
  go_enter Tryz.func24, Tryz.ntmps24
  go_wp2_with fail
  refine HG.out.1.mono ?_
  rintro e w1 ⟨rfl, rfl⟩
  go_wp2_with fail
  refine wp_region_mix I [(true, 0), (true, 1), (true, 2), (true, 3), (true, 4), (true, 5), (true, 6), (true, 7), (true, 8), (true, 9), (false, 10), (false, 11)] (by kernel_rfl) (by kernel_rfl) hI0 ?_
  refine' mix_take _ (by rfl) _ (by rfl) ?_ ?_
  rotate_left
  · rintro _ ⟨x, rfl⟩
    have hxm0 := m0 x
    have hxm1 := m1 x
    have hxm2 := m2 x
    have hxm3 := m3 x
    have hxm4 := m4 x
    go_simp
    try with_reducible rfl
  try simp only [Act.put, List.setIfInBounds_toArray, List.set_cons_zero, List.set_cons_succ]
  refine' mix_take _ (by rfl) _ (by rfl) ?_ ?_
  rotate_left
  · rintro _ ⟨x, rfl⟩
    have hxm0 := m0 x
    have hxm1 := m1 x
    have hxm2 := m2 x
    have hxm3 := m3 x
    have hxm4 := m4 x
    go_simp
    try with_reducible rfl
  try simp only [Act.put, List.setIfInBounds_toArray, List.set_cons_zero, List.set_cons_succ]
  refine' mix_take _ (by rfl) _ (by rfl) ?_ ?_
  rotate_left
  · rintro _ ⟨x, rfl⟩
    have hxm0 := m0 x
    have hxm1 := m1 x
    have hxm2 := m2 x
    have hxm3 := m3 x
    have hxm4 := m4 x
    go_simp
    try with_reducible rfl
  try simp only [Act.put, List.setIfInBounds_toArray, List.set_cons_zero, List.set_cons_succ]
  refine' mix_take _ (by rfl) _ (by rfl) ?_ ?_
  rotate_left
  · rintro _ ⟨x, rfl⟩
    have hxm0 := m0 x
    have hxm1 := m1 x
    have hxm2 := m2 x
    have hxm3 := m3 x
    have hxm4 := m4 x
    go_simp
    try with_reducible rfl
  try simp only [Act.put, List.setIfInBounds_toArray, List.set_cons_zero, List.set_cons_succ]
  refine' mix_take _ (by rfl) _ (by rfl) ?_ ?_
  rotate_left
  · rintro _ ⟨x, rfl⟩
    have hxm0 := m0 x
    have hxm1 := m1 x
    have hxm2 := m2 x
    have hxm3 := m3 x
    have hxm4 := m4 x
    go_simp
    try with_reducible rfl
  try simp only [Act.put, List.setIfInBounds_toArray, List.set_cons_zero, List.set_cons_succ]
  refine' mix_take _ (by rfl) _ (by rfl) ?_ ?_
  rotate_left
  · rintro _ ⟨x, rfl⟩
    have hxm0 := m0 x
    have hxm1 := m1 x
    have hxm2 := m2 x
    have hxm3 := m3 x
    have hxm4 := m4 x
    go_simp
    try with_reducible rfl
  try simp only [Act.put, List.setIfInBounds_toArray, List.set_cons_zero, List.set_cons_succ]
  refine' mix_take _ (by rfl) _ (by rfl) ?_ ?_
  rotate_left
  · rintro _ ⟨x, rfl⟩
    have hxm0 := m0 x
    have hxm1 := m1 x
    have hxm2 := m2 x
    have hxm3 := m3 x
    have hxm4 := m4 x
    go_simp
    try with_reducible rfl
  try simp only [Act.put, List.setIfInBounds_toArray, List.set_cons_zero, List.set_cons_succ]
  refine' mix_take _ (by rfl) _ (by rfl) ?_ ?_
  rotate_left
  · rintro _ ⟨x, rfl⟩
    have hxm0 := m0 x
    have hxm1 := m1 x
    have hxm2 := m2 x
    have hxm3 := m3 x
    have hxm4 := m4 x
    go_simp
    try with_reducible rfl
  try simp only [Act.put, List.setIfInBounds_toArray, List.set_cons_zero, List.set_cons_succ]
  refine' mix_take _ (by rfl) _ (by rfl) ?_ ?_
  rotate_left
  · rintro _ ⟨x, rfl⟩
    have hxm0 := m0 x
    have hxm1 := m1 x
    have hxm2 := m2 x
    have hxm3 := m3 x
    have hxm4 := m4 x
    go_simp
    try with_reducible rfl
  try simp only [Act.put, List.setIfInBounds_toArray, List.set_cons_zero, List.set_cons_succ]
  refine' mix_take _ (by rfl) _ (by rfl) ?_ ?_
  rotate_left
  · rintro _ ⟨x, rfl⟩
    have hxm0 := m0 x
    have hxm1 := m1 x
    have hxm2 := m2 x
    have hxm3 := m3 x
    have hxm4 := m4 x
    go_simp
    try with_reducible rfl
  try simp only [Act.put, List.setIfInBounds_toArray, List.set_cons_zero, List.set_cons_succ]
  refine mix_do _ (by rfl) (by rfl) (fun K hK => ?_)
  go_simp
  refine HG.out.2.1.mono ?_
  rintro e w2 ⟨rfl, hb2⟩
  have T2 := TreeF.below (w := w.drew) HG.out.2.2.1 hb2
  have B2 := Lib.hid (And.intro T2 ((Below.refl w.heap.size w).drew.trans hb2))
  clear T2 hb2
  try go_simp
  refine hK.out _ _ (HG.out.2.2.2 _ B2.out.1) ?_
  clear hK K
  try simp only [Act.put, List.setIfInBounds_toArray, List.set_cons_zero, List.set_cons_succ]
  refine mix_do _ (by rfl) (by rfl) (fun K hK => ?_)
  go_simp
  try go_simp
  refine hK.out _ _ (HG.out.2.2.2 _ B2.out.1) ?_
  clear hK K
  try simp only [Act.put, List.setIfInBounds_toArray, List.set_cons_zero, List.set_cons_succ]
  refine mix_nil ?_
  go_wp2_with fail
  go_ret
  exact ⟨rfl, B2.out.2⟩
theorem treeF_rank {w : World} {px ps kind td root : Nat} {ty : TypeId} {kv : Value} (hT : TreeF w px ps ty kv kind td root) (k : List UInt8) {z : Nat} {fm : FuncId} (hme : ∀ (f : Nat) (v : Value) (w : World), (method (f + 1) ty v "loft/backend.rank").run Tryz.prog w = .ok (fm, v) w) (hen : ∀ (args : Array Value) (w : World), (callFunc fm args).run Tryz.prog w = .ok (.enter fm args) w) (hs : ∀ W, Below w.heap.size w W → Calls Tryz.prog fm #[kv, .int .u64 root, SV k] W fun e w' => e = .returned (.int .i64 z) ∧ Below W.heap.size W w') :
    Calls Tryz.prog 25 #[PV px, SV k] w fun e w' => e = .returned (.int .i64 z) ∧ Below w.heap.size w w' := by
  have hn := treeF_none hT
  have hs := hs _ (Below.refl _ w).drew
  obtain ⟨I, hIi, hIo⟩ := treeF_class px ps ty kv kind td root
  have hy0 := fun x : Keeps I => hIi _ x.ok
  simp only [TreeF] at hy0
  have m0 : ∀ x : Keeps I, x.to.cell? ⟨px, 0, none⟩ = some (PV ps) := fun x => by rw [cell_of_block (hy0 x)]; rfl
  have m1 : ∀ x : Keeps I, x.to.cell? ⟨px, 1, none⟩ = some (.int .i64 kind) := fun x => by rw [cell_of_block (hy0 x)]; rfl
  have m2 : ∀ x : Keeps I, x.to.cell? ⟨px, 2, none⟩ = some (.int .i64 td) := fun x => by rw [cell_of_block (hy0 x)]; rfl
  have m3 : ∀ x : Keeps I, x.to.cell? ⟨px, 3, none⟩ = some (.iface ty kv) := fun x => by rw [cell_of_block (hy0 x)]; rfl
  have m4 : ∀ x : Keeps I, x.to.cell? ⟨px, 4, none⟩ = some (.int .u64 root) := fun x => by rw [cell_of_block (hy0 x)]; rfl
  have hI0 : I w.drew := hIo _ hT
  have HG := Lib.hid (And.intro hn (And.intro hs (And.intro hT hIo)))
  clear hn hs hT hIi hIo hy0
  go_enter Tryz.func25, Tryz.ntmps25
  go_wp2_with fail
  refine HG.out.1.mono ?_
  rintro e w1 ⟨rfl, rfl⟩
  go_wp2_with fail
  refine wp_region_mix I [(true, 0), (true, 1), (true, 2), (true, 3), (true, 4), (true, 5), (true, 6), (true, 7), (true, 8), (true, 9), (true, 10), (false, 11), (false, 12)] (by kernel_rfl) (by kernel_rfl) hI0 ?_
  refine' mix_take _ (by rfl) _ (by rfl) ?_ ?_
  rotate_left
  · rintro _ ⟨x, rfl⟩
    have hxm0 := m0 x
    have hxm1 := m1 x
    have hxm2 := m2 x
    have hxm3 := m3 x
    have hxm4 := m4 x
    go_simp
    try with_reducible rfl
  try simp only [Act.put, List.setIfInBounds_toArray, List.set_cons_zero, List.set_cons_succ]
  refine' mix_take _ (by rfl) _ (by rfl) ?_ ?_
  rotate_left
  · rintro _ ⟨x, rfl⟩
    have hxm0 := m0 x
    have hxm1 := m1 x
    have hxm2 := m2 x
    have hxm3 := m3 x
    have hxm4 := m4 x
    go_simp
    try with_reducible rfl
  try simp only [Act.put, List.setIfInBounds_toArray, List.set_cons_zero, List.set_cons_succ]
  refine' mix_take _ (by rfl) _ (by rfl) ?_ ?_
  rotate_left
  · rintro _ ⟨x, rfl⟩
    have hxm0 := m0 x
    have hxm1 := m1 x
    have hxm2 := m2 x
    have hxm3 := m3 x
    have hxm4 := m4 x
    go_simp
    try with_reducible rfl
  try simp only [Act.put, List.setIfInBounds_toArray, List.set_cons_zero, List.set_cons_succ]
  refine' mix_take _ (by rfl) _ (by rfl) ?_ ?_
  rotate_left
  · rintro _ ⟨x, rfl⟩
    have hxm0 := m0 x
    have hxm1 := m1 x
    have hxm2 := m2 x
    have hxm3 := m3 x
    have hxm4 := m4 x
    go_simp
    try with_reducible rfl
  try simp only [Act.put, List.setIfInBounds_toArray, List.set_cons_zero, List.set_cons_succ]
  refine' mix_take _ (by rfl) _ (by rfl) ?_ ?_
  rotate_left
  · rintro _ ⟨x, rfl⟩
    have hxm0 := m0 x
    have hxm1 := m1 x
    have hxm2 := m2 x
    have hxm3 := m3 x
    have hxm4 := m4 x
    go_simp
    try with_reducible rfl
  try simp only [Act.put, List.setIfInBounds_toArray, List.set_cons_zero, List.set_cons_succ]
  refine' mix_take _ (by rfl) _ (by rfl) ?_ ?_
  rotate_left
  · rintro _ ⟨x, rfl⟩
    have hxm0 := m0 x
    have hxm1 := m1 x
    have hxm2 := m2 x
    have hxm3 := m3 x
    have hxm4 := m4 x
    go_simp
    try with_reducible rfl
  try simp only [Act.put, List.setIfInBounds_toArray, List.set_cons_zero, List.set_cons_succ]
  refine' mix_take _ (by rfl) _ (by rfl) ?_ ?_
  rotate_left
  · rintro _ ⟨x, rfl⟩
    have hxm0 := m0 x
    have hxm1 := m1 x
    have hxm2 := m2 x
    have hxm3 := m3 x
    have hxm4 := m4 x
    go_simp
    try with_reducible rfl
  try simp only [Act.put, List.setIfInBounds_toArray, List.set_cons_zero, List.set_cons_succ]
  refine' mix_take _ (by rfl) _ (by rfl) ?_ ?_
  rotate_left
  · rintro _ ⟨x, rfl⟩
    have hxm0 := m0 x
    have hxm1 := m1 x
    have hxm2 := m2 x
    have hxm3 := m3 x
    have hxm4 := m4 x
    go_simp
    try with_reducible rfl
  try simp only [Act.put, List.setIfInBounds_toArray, List.set_cons_zero, List.set_cons_succ]
  refine' mix_take _ (by rfl) _ (by rfl) ?_ ?_
  rotate_left
  · rintro _ ⟨x, rfl⟩
    have hxm0 := m0 x
    have hxm1 := m1 x
    have hxm2 := m2 x
    have hxm3 := m3 x
    have hxm4 := m4 x
    go_simp
    try with_reducible rfl
  try simp only [Act.put, List.setIfInBounds_toArray, List.set_cons_zero, List.set_cons_succ]
  refine' mix_take _ (by rfl) _ (by rfl) ?_ ?_
  rotate_left
  · rintro _ ⟨x, rfl⟩
    have hxm0 := m0 x
    have hxm1 := m1 x
    have hxm2 := m2 x
    have hxm3 := m3 x
    have hxm4 := m4 x
    go_simp
    try with_reducible rfl
  try simp only [Act.put, List.setIfInBounds_toArray, List.set_cons_zero, List.set_cons_succ]
  refine' mix_take _ (by rfl) _ (by rfl) ?_ ?_
  rotate_left
  · rintro _ ⟨x, rfl⟩
    have hxm0 := m0 x
    have hxm1 := m1 x
    have hxm2 := m2 x
    have hxm3 := m3 x
    have hxm4 := m4 x
    go_simp
    try with_reducible rfl
  try simp only [Act.put, List.setIfInBounds_toArray, List.set_cons_zero, List.set_cons_succ]
  refine mix_do _ (by rfl) (by rfl) (fun K hK => ?_)
  go_simp
  refine HG.out.2.1.mono ?_
  rintro e w2 ⟨rfl, hb2⟩
  have T2 := TreeF.below (w := w.drew) HG.out.2.2.1 hb2
  have B2 := Lib.hid (And.intro T2 ((Below.refl w.heap.size w).drew.trans hb2))
  clear T2 hb2
  try go_simp
  refine hK.out _ _ (HG.out.2.2.2 _ B2.out.1) ?_
  clear hK K
  try simp only [Act.put, List.setIfInBounds_toArray, List.set_cons_zero, List.set_cons_succ]
  refine mix_do _ (by rfl) (by rfl) (fun K hK => ?_)
  go_simp
  try go_simp
  refine hK.out _ _ (HG.out.2.2.2 _ B2.out.1) ?_
  clear hK K
  try simp only [Act.put, List.setIfInBounds_toArray, List.set_cons_zero, List.set_cons_succ]
  refine mix_nil ?_
  go_wp2_with fail
  go_ret
  exact ⟨rfl, B2.out.2⟩
theorem treeF_at {w : World} {px ps kind td root : Nat} {ty : TypeId} {kv : Value} (hT : TreeF w px ps ty kv kind td root) (k : Int) (p : List UInt8 × List UInt8) (k0 k1 e1 e2 : Nat) {fm : FuncId} (hme : ∀ (f : Nat) (v : Value) (w : World), (method (f + 1) ty v "loft/backend.at").run Tryz.prog w = .ok (fm, v) w) (hen : ∀ (args : Array Value) (w : World), (callFunc fm args).run Tryz.prog w = .ok (.enter fm args) w) (hs : ∀ W, Below w.heap.size w W → Calls Tryz.prog fm #[kv, .int .u64 root, .int .i64 k] W fun e w' => e = .returned (.tuple #[.agg #[.int .u64 k0, .int .u64 k1], .int .i64 0]) ∧ Below W.heap.size W w') (hg1 : ∀ W, Below w.heap.size w W → Calls Tryz.prog 73 #[PV ps, .int .u64 k0] W fun e w' => e = .returned (.tuple #[SV p.1, .int .i64 e1]) ∧ Below W.heap.size W w') (hg2 : ∀ W, Below w.heap.size w W → Calls Tryz.prog 73 #[PV ps, .int .u64 k1] W fun e w' => e = .returned (.tuple #[SV p.2, .int .i64 e2]) ∧ Below W.heap.size W w') :
    Calls Tryz.prog 19 #[PV px, .int .i64 k] w fun e w' => e = .returned (.tuple #[prV p, .int .i64 0]) ∧ Below w.heap.size w w' := by
  have B0 := (Below.refl w.heap.size w).alloc (Nat.le_refl _) (.cells #[.string ⟨#[]⟩, .string ⟨#[]⟩] 38)
  have y0 := heap_alloc_new w (.cells #[.string ⟨#[]⟩, .string ⟨#[]⟩] 38)
  have hn := treeF_none (hT.below B0)
  obtain ⟨p1, p2⟩ := p
  simp only [prV] at hg1 hg2 ⊢
  obtain ⟨I, hIi, hIo⟩ := treeF_class px ps ty kv kind td root
  have hy0 := fun x : Keeps I => hIi _ x.ok
  simp only [TreeF] at hy0
  have m0 : ∀ x : Keeps I, x.to.cell? ⟨px, 0, none⟩ = some (PV ps) := fun x => by rw [cell_of_block (hy0 x)]; rfl
  have m1 : ∀ x : Keeps I, x.to.cell? ⟨px, 1, none⟩ = some (.int .i64 kind) := fun x => by rw [cell_of_block (hy0 x)]; rfl
  have m2 : ∀ x : Keeps I, x.to.cell? ⟨px, 2, none⟩ = some (.int .i64 td) := fun x => by rw [cell_of_block (hy0 x)]; rfl
  have m3 : ∀ x : Keeps I, x.to.cell? ⟨px, 3, none⟩ = some (.iface ty kv) := fun x => by rw [cell_of_block (hy0 x)]; rfl
  have m4 : ∀ x : Keeps I, x.to.cell? ⟨px, 4, none⟩ = some (.int .u64 root) := fun x => by rw [cell_of_block (hy0 x)]; rfl
  have hI0 : I ((w.alloc (.cells #[.string ⟨#[]⟩, .string ⟨#[]⟩] 38)).drew) := hIo _ (hT.below B0.drew)
  have HG := Lib.hid (And.intro hn (And.intro hs (And.intro hT (And.intro hIo (And.intro B0 (And.intro y0 (And.intro hg1 hg2)))))))
  clear hn hs hT hIi hIo hy0 B0 y0 hg1 hg2
  go_enter Tryz.func19, Tryz.ntmps19
  go_wp2_with fail
  refine HG.out.1.mono ?_
  rintro e w1 ⟨rfl, rfl⟩
  go_wp2_with fail
  have HU := Lib.hid (And.intro HG.out.2.2.2.2.2.2.1 HG.out.2.2.2.2.2.2.2)
  refine wp_region_plan I (.take 0 (.take 1 (.take 2 (.take 3 (.take 4 (.take 5 (.take 6 (.take 7 (.take 8 (.take 9 (.take 10 (.two 11 15 (.take 12 (.take 13 (.take 14 (.go 15 (.go 16 (.go 17 .nil)))))) (.go 11 (.take 12 (.take 13 (.take 14 (.go 16 (.go 17 .nil)))))))))))))))))) (by kernel_rfl) (by kernel_rfl) hI0 ?_
  refine' plan_take _ (by rfl) _ (by rfl) ?_ ?_
  rotate_left
  · rintro _ ⟨x, rfl⟩
    have hxm0 := m0 x
    have hxm1 := m1 x
    have hxm2 := m2 x
    have hxm3 := m3 x
    have hxm4 := m4 x
    go_simp
    try with_reducible rfl
  try simp only [Act.put, List.setIfInBounds_toArray, List.set_cons_zero, List.set_cons_succ]
  refine' plan_take _ (by rfl) _ (by rfl) ?_ ?_
  rotate_left
  · rintro _ ⟨x, rfl⟩
    have hxm0 := m0 x
    have hxm1 := m1 x
    have hxm2 := m2 x
    have hxm3 := m3 x
    have hxm4 := m4 x
    go_simp
    try with_reducible rfl
  try simp only [Act.put, List.setIfInBounds_toArray, List.set_cons_zero, List.set_cons_succ]
  refine' plan_take _ (by rfl) _ (by rfl) ?_ ?_
  rotate_left
  · rintro _ ⟨x, rfl⟩
    have hxm0 := m0 x
    have hxm1 := m1 x
    have hxm2 := m2 x
    have hxm3 := m3 x
    have hxm4 := m4 x
    go_simp
    try with_reducible rfl
  try simp only [Act.put, List.setIfInBounds_toArray, List.set_cons_zero, List.set_cons_succ]
  refine' plan_take _ (by rfl) _ (by rfl) ?_ ?_
  rotate_left
  · rintro _ ⟨x, rfl⟩
    have hxm0 := m0 x
    have hxm1 := m1 x
    have hxm2 := m2 x
    have hxm3 := m3 x
    have hxm4 := m4 x
    go_simp
    try with_reducible rfl
  try simp only [Act.put, List.setIfInBounds_toArray, List.set_cons_zero, List.set_cons_succ]
  refine' plan_take _ (by rfl) _ (by rfl) ?_ ?_
  rotate_left
  · rintro _ ⟨x, rfl⟩
    have hxm0 := m0 x
    have hxm1 := m1 x
    have hxm2 := m2 x
    have hxm3 := m3 x
    have hxm4 := m4 x
    go_simp
    try with_reducible rfl
  try simp only [Act.put, List.setIfInBounds_toArray, List.set_cons_zero, List.set_cons_succ]
  refine' plan_take _ (by rfl) _ (by rfl) ?_ ?_
  rotate_left
  · rintro _ ⟨x, rfl⟩
    have hxm0 := m0 x
    have hxm1 := m1 x
    have hxm2 := m2 x
    have hxm3 := m3 x
    have hxm4 := m4 x
    go_simp
    try with_reducible rfl
  try simp only [Act.put, List.setIfInBounds_toArray, List.set_cons_zero, List.set_cons_succ]
  refine' plan_take _ (by rfl) _ (by rfl) ?_ ?_
  rotate_left
  · rintro _ ⟨x, rfl⟩
    have hxm0 := m0 x
    have hxm1 := m1 x
    have hxm2 := m2 x
    have hxm3 := m3 x
    have hxm4 := m4 x
    go_simp
    try with_reducible rfl
  try simp only [Act.put, List.setIfInBounds_toArray, List.set_cons_zero, List.set_cons_succ]
  refine' plan_take _ (by rfl) _ (by rfl) ?_ ?_
  rotate_left
  · rintro _ ⟨x, rfl⟩
    have hxm0 := m0 x
    have hxm1 := m1 x
    have hxm2 := m2 x
    have hxm3 := m3 x
    have hxm4 := m4 x
    go_simp
    try with_reducible rfl
  try simp only [Act.put, List.setIfInBounds_toArray, List.set_cons_zero, List.set_cons_succ]
  refine' plan_take _ (by rfl) _ (by rfl) ?_ ?_
  rotate_left
  · rintro _ ⟨x, rfl⟩
    have hxm0 := m0 x
    have hxm1 := m1 x
    have hxm2 := m2 x
    have hxm3 := m3 x
    have hxm4 := m4 x
    go_simp
    try with_reducible rfl
  try simp only [Act.put, List.setIfInBounds_toArray, List.set_cons_zero, List.set_cons_succ]
  refine' plan_take _ (by rfl) _ (by rfl) ?_ ?_
  rotate_left
  · rintro _ ⟨x, rfl⟩
    have hxm0 := m0 x
    have hxm1 := m1 x
    have hxm2 := m2 x
    have hxm3 := m3 x
    have hxm4 := m4 x
    go_simp
    try with_reducible rfl
  try simp only [Act.put, List.setIfInBounds_toArray, List.set_cons_zero, List.set_cons_succ]
  refine' plan_take _ (by rfl) _ (by rfl) ?_ ?_
  rotate_left
  · rintro _ ⟨x, rfl⟩
    have hxm0 := m0 x
    have hxm1 := m1 x
    have hxm2 := m2 x
    have hxm3 := m3 x
    have hxm4 := m4 x
    go_simp
    try with_reducible rfl
  try simp only [Act.put, List.setIfInBounds_toArray, List.set_cons_zero, List.set_cons_succ]
  refine plan_two ?h1 ?h2
  case' h1 =>
    refine plan_do _ (by rfl) (by rfl) (fun K hK => ?_)
    go_simp
    refine (HG.out.2.1 _ HG.out.2.2.2.2.1.drew).mono ?_
    rintro e w2 ⟨rfl, hb2⟩
    have T2 := TreeF.below (w := (w.alloc (.cells #[.string ⟨#[]⟩, .string ⟨#[]⟩] 38)).drew) (HG.out.2.2.1.below HG.out.2.2.2.2.1.drew) hb2
    have y2 := (hb2.block w.heap.size (by show w.heap.size < (w.alloc _).heap.size; simp)).trans HG.out.2.2.2.2.2.1
    have B2 := Lib.hid (And.intro T2 (And.intro (HG.out.2.2.2.2.1.drew.trans (hb2.mono HG.out.2.2.2.2.1.drew.size)) y2))
    clear T2 hb2 y2
    try go_simp
    refine hK.out _ _ (HG.out.2.2.2.1 _ B2.out.1) ?_
    clear hK K
    try simp only [Act.put, List.setIfInBounds_toArray, List.set_cons_zero, List.set_cons_succ]
    refine' plan_take _ (by rfl) _ (by rfl) ?_ ?_
    rotate_left
    · rintro _ ⟨x, rfl⟩
      go_simp
      try with_reducible rfl
    try simp only [Act.put, List.setIfInBounds_toArray, List.set_cons_zero, List.set_cons_succ]
    refine' plan_take _ (by rfl) _ (by rfl) ?_ ?_
    rotate_left
    · rintro _ ⟨x, rfl⟩
      go_simp
      try with_reducible rfl
    try simp only [Act.put, List.setIfInBounds_toArray, List.set_cons_zero, List.set_cons_succ]
    refine' plan_take _ (by rfl) _ (by rfl) ?_ ?_
    rotate_left
    · rintro _ ⟨x, rfl⟩
      go_simp
      try with_reducible rfl
    try simp only [Act.put, List.setIfInBounds_toArray, List.set_cons_zero, List.set_cons_succ]
    refine plan_do _ (by rfl) (by rfl) (fun K hK => ?_)
    go_simp
    have A2 := (Below.refl w2.heap.size w2).alloc (Nat.le_refl _) (.cells #[.int .u64 0, .int .u64 0] 105)
    have TA := B2.out.1.below A2
    have BA := B2.out.2.1.trans (A2.mono B2.out.2.1.size)
    have yA := (A2.block w.heap.size (Array.getElem?_eq_some_iff.1 B2.out.2.2).1).trans B2.out.2.2
    have qA := heap_alloc_new w2 (.cells #[.int .u64 0, .int .u64 0] 105)
    have ltA : w.heap.size < w2.heap.size := (Array.getElem?_eq_some_iff.1 B2.out.2.2).1
    clear A2 B2
    generalize w2.alloc (.cells #[.int .u64 0, .int .u64 0] 105) = W at *
    generalize w2.heap.size = b6 at *
    try go_simp
    refine hK.out _ _ (HG.out.2.2.2.1 _ TA) ?_
    clear hK K
    try simp only [Act.put, List.setIfInBounds_toArray, List.set_cons_zero, List.set_cons_succ]
    have c0 : (W).cell? ⟨b6, 0, none⟩ = some (.int .u64 0) := by rw [cell_of_block qA]; rfl
    have c1 : (W).cell? ⟨b6, 1, none⟩ = some (.int .u64 0) := by rw [cell_of_block qA]; rfl
    have f0 : (W).frozen? ⟨b6, 0, none⟩ = false := frozen_of_block qA
    have f1 : (W).frozen? ⟨b6, 1, none⟩ = false := frozen_of_block qA
    have HA := Lib.hid (And.intro TA (And.intro BA (And.intro yA (And.intro qA ltA))))
    clear TA BA yA qA ltA
    refine plan_do _ (by rfl) (by rfl) (fun K hK => ?_)
    go_simp
    have qB := st2_heap HA.out.2.2.2.1 (.int .u64 k0) (.int .u64 k1)
    have BB := st2_below HA.out.2.1 (Nat.le_of_lt HA.out.2.2.2.2) (.int .u64 k0) (.int .u64 k1)
    have yB := (st2_other (Nat.ne_of_lt HA.out.2.2.2.2) (.int .u64 k0) (.int .u64 k1)).trans HA.out.2.2.1
    have TB : TreeF ((W.setCell ⟨b6, 0, none⟩ (.int .u64 k0)).setCell ⟨b6, 1, none⟩ (.int .u64 k1)) px ps ty kv kind td root := HG.out.2.2.1.below BB
    have ltB := HA.out.2.2.2.2
    clear c0 c1 f0 f1 HA
    generalize ((W.setCell ⟨b6, 0, none⟩ (.int .u64 k0)).setCell ⟨b6, 1, none⟩ (.int .u64 k1)) = W7 at *
    try go_simp
    refine hK.out _ _ (HG.out.2.2.2.1 _ TB) ?_
    clear hK K
    try simp only [Act.put, List.setIfInBounds_toArray, List.set_cons_zero, List.set_cons_succ]
    refine plan_do _ (by rfl) (by rfl) (fun K hK => ?_)
    go_simp
    try go_simp
    refine hK.out _ _ (HG.out.2.2.2.1 _ TB) ?_
    clear hK K
    try simp only [Act.put, List.setIfInBounds_toArray, List.set_cons_zero, List.set_cons_succ]
    refine plan_nil ?_
    have H7 := Lib.hid (And.intro TB (And.intro BB (And.intro yB (And.intro qB ltB))))
    clear TB BB yB qB ltB
    clear w2
  case' h2 =>
    refine plan_do _ (by rfl) (by rfl) (fun K hK => ?_)
    go_simp
    have A2 := (Below.refl (w.alloc (.cells #[.string ⟨#[]⟩, .string ⟨#[]⟩] 38)).heap.size (w.alloc (.cells #[.string ⟨#[]⟩, .string ⟨#[]⟩] 38))).alloc (Nat.le_refl _) (.cells #[.int .u64 0, .int .u64 0] 105)
    have BA := (HG.out.2.2.2.2.1.trans (A2.mono HG.out.2.2.2.2.1.size)).drew
    have qA : ((w.alloc (.cells #[.string ⟨#[]⟩, .string ⟨#[]⟩] 38)).alloc (.cells #[.int .u64 0, .int .u64 0] 105)).drew.heap[(w.alloc (.cells #[.string ⟨#[]⟩, .string ⟨#[]⟩] 38)).heap.size]? = _ := heap_alloc_new (w.alloc (.cells #[.string ⟨#[]⟩, .string ⟨#[]⟩] 38)) (.cells #[.int .u64 0, .int .u64 0] 105)
    have yA : ((w.alloc (.cells #[.string ⟨#[]⟩, .string ⟨#[]⟩] 38)).alloc (.cells #[.int .u64 0, .int .u64 0] 105)).drew.heap[w.heap.size]? = _ := (A2.block w.heap.size (by simp)).trans HG.out.2.2.2.2.2.1
    have TA := HG.out.2.2.1.below BA
    simp only [World.size_alloc] at qA
    clear A2
    generalize ((w.alloc (.cells #[.string ⟨#[]⟩, .string ⟨#[]⟩] 38)).alloc (.cells #[.int .u64 0, .int .u64 0] 105)).drew = w1 at *
    try go_simp
    refine hK.out _ _ (HG.out.2.2.2.1 _ TA) ?_
    clear hK K
    try simp only [Act.put, List.setIfInBounds_toArray, List.set_cons_zero, List.set_cons_succ]
    have HA0 := Lib.hid (And.intro TA (And.intro BA (And.intro yA qA)))
    clear TA BA yA qA
    refine plan_do _ (by rfl) (by rfl) (fun K hK => ?_)
    go_simp
    refine (HG.out.2.1 _ HA0.out.2.1).mono ?_
    rintro e W ⟨rfl, hb2⟩
    have TA := HA0.out.1.below hb2
    have BA := HA0.out.2.1.trans (hb2.mono HA0.out.2.1.size)
    have yA := (hb2.block w.heap.size (Array.getElem?_eq_some_iff.1 HA0.out.2.2.1).1).trans HA0.out.2.2.1
    have qA := (hb2.block (w.heap.size + 1) (Array.getElem?_eq_some_iff.1 HA0.out.2.2.2).1).trans HA0.out.2.2.2
    have ltA : w.heap.size < w.heap.size + 1 := by omega
    clear hb2 HA0
    generalize w.heap.size + 1 = b6 at *
    try go_simp
    refine hK.out _ _ (HG.out.2.2.2.1 _ TA) ?_
    clear hK K
    try simp only [Act.put, List.setIfInBounds_toArray, List.set_cons_zero, List.set_cons_succ]
    refine' plan_take _ (by rfl) _ (by rfl) ?_ ?_
    rotate_left
    · rintro _ ⟨x, rfl⟩
      go_simp
      try with_reducible rfl
    try simp only [Act.put, List.setIfInBounds_toArray, List.set_cons_zero, List.set_cons_succ]
    refine' plan_take _ (by rfl) _ (by rfl) ?_ ?_
    rotate_left
    · rintro _ ⟨x, rfl⟩
      go_simp
      try with_reducible rfl
    try simp only [Act.put, List.setIfInBounds_toArray, List.set_cons_zero, List.set_cons_succ]
    refine' plan_take _ (by rfl) _ (by rfl) ?_ ?_
    rotate_left
    · rintro _ ⟨x, rfl⟩
      go_simp
      try with_reducible rfl
    try simp only [Act.put, List.setIfInBounds_toArray, List.set_cons_zero, List.set_cons_succ]
    have c0 : (W).cell? ⟨b6, 0, none⟩ = some (.int .u64 0) := by rw [cell_of_block qA]; rfl
    have c1 : (W).cell? ⟨b6, 1, none⟩ = some (.int .u64 0) := by rw [cell_of_block qA]; rfl
    have f0 : (W).frozen? ⟨b6, 0, none⟩ = false := frozen_of_block qA
    have f1 : (W).frozen? ⟨b6, 1, none⟩ = false := frozen_of_block qA
    have HA := Lib.hid (And.intro TA (And.intro BA (And.intro yA (And.intro qA ltA))))
    clear TA BA yA qA ltA
    refine plan_do _ (by rfl) (by rfl) (fun K hK => ?_)
    go_simp
    have qB := st2_heap HA.out.2.2.2.1 (.int .u64 k0) (.int .u64 k1)
    have BB := st2_below HA.out.2.1 (Nat.le_of_lt HA.out.2.2.2.2) (.int .u64 k0) (.int .u64 k1)
    have yB := (st2_other (Nat.ne_of_lt HA.out.2.2.2.2) (.int .u64 k0) (.int .u64 k1)).trans HA.out.2.2.1
    have TB : TreeF ((W.setCell ⟨b6, 0, none⟩ (.int .u64 k0)).setCell ⟨b6, 1, none⟩ (.int .u64 k1)) px ps ty kv kind td root := HG.out.2.2.1.below BB
    have ltB := HA.out.2.2.2.2
    clear c0 c1 f0 f1 HA
    generalize ((W.setCell ⟨b6, 0, none⟩ (.int .u64 k0)).setCell ⟨b6, 1, none⟩ (.int .u64 k1)) = W7 at *
    try go_simp
    refine hK.out _ _ (HG.out.2.2.2.1 _ TB) ?_
    clear hK K
    try simp only [Act.put, List.setIfInBounds_toArray, List.set_cons_zero, List.set_cons_succ]
    refine plan_do _ (by rfl) (by rfl) (fun K hK => ?_)
    go_simp
    try go_simp
    refine hK.out _ _ (HG.out.2.2.2.1 _ TB) ?_
    clear hK K
    try simp only [Act.put, List.setIfInBounds_toArray, List.set_cons_zero, List.set_cons_succ]
    refine plan_nil ?_
    have H7 := Lib.hid (And.intro TB (And.intro BB (And.intro yB (And.intro qB ltB))))
    clear TB BB yB qB ltB
    clear w1
  all_goals
    have HT := Lib.hid HG.out.2.2.1
    clear hI0 HG m0 m1 m2 m3 m4 I
    obtain ⟨I, hIi, hIo⟩ := two_class (fun w' => TreeF w' px ps ty kv kind td root) (fun w' => w'.heap[b6]? = some (.cells #[.int .u64 k0, .int .u64 k1] 105))
    have hy0 := fun x : Keeps I => (hIi _ x.ok).1
    have hz0 := fun x : Keeps I => (hIi _ x.ok).2
    simp only [TreeF] at hy0
    have m0 : ∀ x : Keeps I, x.to.cell? ⟨px, 0, none⟩ = some (PV ps) := fun x => by rw [cell_of_block (hy0 x)]; rfl
    have m1 : ∀ x : Keeps I, x.to.cell? ⟨px, 1, none⟩ = some (.int .i64 kind) := fun x => by rw [cell_of_block (hy0 x)]; rfl
    have m2 : ∀ x : Keeps I, x.to.cell? ⟨px, 2, none⟩ = some (.int .i64 td) := fun x => by rw [cell_of_block (hy0 x)]; rfl
    have m3 : ∀ x : Keeps I, x.to.cell? ⟨px, 3, none⟩ = some (.iface ty kv) := fun x => by rw [cell_of_block (hy0 x)]; rfl
    have m4 : ∀ x : Keeps I, x.to.cell? ⟨px, 4, none⟩ = some (.int .u64 root) := fun x => by rw [cell_of_block (hy0 x)]; rfl
    have n0 : ∀ x : Keeps I, x.to.cell? ⟨b6, 0, none⟩ = some (.int .u64 k0) := fun x => by rw [cell_of_block (hz0 x)]; rfl
    have n1 : ∀ x : Keeps I, x.to.cell? ⟨b6, 1, none⟩ = some (.int .u64 k1) := fun x => by rw [cell_of_block (hz0 x)]; rfl
    have HI := Lib.hid hIo
    clear hIi hIo hy0 hz0
    have HW7 := H7
    clear H7
    have hI0 : I W7.drew := HI.out _ HW7.out.1 HW7.out.2.2.2.1
    go_wp2_with fail
    refine wp_region_plan I (.take 0 (.take 1 (.take 2 (.take 3 (.take 4 (.take 5 (.go 6 (.take 7 (.take 8 (.take 9 (.take 10 (.go 11 .nil)))))))))))) (by kernel_rfl) (by kernel_rfl) hI0 ?_
    clear hI0
    refine' plan_take _ (by rfl) _ (by rfl) ?_ ?_
    rotate_left
    · rintro _ ⟨x, rfl⟩
      have hxm0 := m0 x
      have hxn0 := n0 x
      go_simp
      try with_reducible rfl
    try simp only [Act.put, List.setIfInBounds_toArray, List.set_cons_zero, List.set_cons_succ]
    refine' plan_take _ (by rfl) _ (by rfl) ?_ ?_
    rotate_left
    · rintro _ ⟨x, rfl⟩
      have hxm0 := m0 x
      have hxn0 := n0 x
      go_simp
      try with_reducible rfl
    try simp only [Act.put, List.setIfInBounds_toArray, List.set_cons_zero, List.set_cons_succ]
    refine' plan_take _ (by rfl) _ (by rfl) ?_ ?_
    rotate_left
    · rintro _ ⟨x, rfl⟩
      have hxm0 := m0 x
      have hxn0 := n0 x
      go_simp
      try with_reducible rfl
    try simp only [Act.put, List.setIfInBounds_toArray, List.set_cons_zero, List.set_cons_succ]
    refine' plan_take _ (by rfl) _ (by rfl) ?_ ?_
    rotate_left
    · rintro _ ⟨x, rfl⟩
      have hxm0 := m0 x
      have hxn0 := n0 x
      go_simp
      try with_reducible rfl
    try simp only [Act.put, List.setIfInBounds_toArray, List.set_cons_zero, List.set_cons_succ]
    refine' plan_take _ (by rfl) _ (by rfl) ?_ ?_
    rotate_left
    · rintro _ ⟨x, rfl⟩
      have hxm0 := m0 x
      have hxn0 := n0 x
      go_simp
      try with_reducible rfl
    try simp only [Act.put, List.setIfInBounds_toArray, List.set_cons_zero, List.set_cons_succ]
    refine' plan_take _ (by rfl) _ (by rfl) ?_ ?_
    rotate_left
    · rintro _ ⟨x, rfl⟩
      have hxm0 := m0 x
      have hxn0 := n0 x
      go_simp
      try with_reducible rfl
    try simp only [Act.put, List.setIfInBounds_toArray, List.set_cons_zero, List.set_cons_succ]
    refine plan_do _ (by rfl) (by rfl) (fun K hK => ?_)
    go_simp
    refine (HU.out.1 _ HW7.out.2.1.drew).mono ?_
    rintro e w8 ⟨rfl, hb⟩
    have T2 := TreeF.below (w := W7.drew) (HW7.out.1.below (Below.refl _ _).drew) hb
    have B2 := HW7.out.2.1.drew.trans (hb.mono HW7.out.2.1.drew.size)
    have y2 := (hb.block w.heap.size (Array.getElem?_eq_some_iff.1 HW7.out.2.2.1).1).trans HW7.out.2.2.1
    have q2 := (hb.block b6 (Array.getElem?_eq_some_iff.1 HW7.out.2.2.2.1).1).trans HW7.out.2.2.2.1
    clear hb
    have c0 : (w8).cell? ⟨w.heap.size, 0, none⟩ = some (.string ⟨#[]⟩) := by rw [cell_of_block y2]; rfl
    have c1 : (w8).cell? ⟨w.heap.size, 1, none⟩ = some (.string ⟨#[]⟩) := by rw [cell_of_block y2]; rfl
    have f0 : (w8).frozen? ⟨w.heap.size, 0, none⟩ = false := frozen_of_block y2
    have f1 : (w8).frozen? ⟨w.heap.size, 1, none⟩ = false := frozen_of_block y2
    have HX := Lib.hid (And.intro T2 (And.intro B2 (And.intro y2 (And.intro q2 HW7.out.2.2.2.2))))
    clear T2 B2 y2 q2
    try go_simp
    refine hK.out _ _ (HI.out _ HX.out.1 HX.out.2.2.2.1) ?_
    clear hK K
    try simp only [Act.put, List.setIfInBounds_toArray, List.set_cons_zero, List.set_cons_succ]
    refine' plan_take _ (by rfl) _ (by rfl) ?_ ?_
    rotate_left
    · rintro _ ⟨x, rfl⟩
      go_simp
      try with_reducible rfl
    try simp only [Act.put, List.setIfInBounds_toArray, List.set_cons_zero, List.set_cons_succ]
    refine' plan_take _ (by rfl) _ (by rfl) ?_ ?_
    rotate_left
    · rintro _ ⟨x, rfl⟩
      go_simp
      try with_reducible rfl
    try simp only [Act.put, List.setIfInBounds_toArray, List.set_cons_zero, List.set_cons_succ]
    refine' plan_take _ (by rfl) _ (by rfl) ?_ ?_
    rotate_left
    · rintro _ ⟨x, rfl⟩
      go_simp
      try with_reducible rfl
    try simp only [Act.put, List.setIfInBounds_toArray, List.set_cons_zero, List.set_cons_succ]
    refine' plan_take _ (by rfl) _ (by rfl) ?_ ?_
    rotate_left
    · rintro _ ⟨x, rfl⟩
      go_simp
      try with_reducible rfl
    try simp only [Act.put, List.setIfInBounds_toArray, List.set_cons_zero, List.set_cons_succ]
    refine plan_do _ (by rfl) (by rfl) (fun K hK => ?_)
    go_simp
    have y3 := heap_setCell HX.out.2.2.1 (v := SV p1) (i := 0)
    have B3 := HX.out.2.1.setCell (p := ⟨w.heap.size, 0, none⟩) (Nat.le_refl _) (SV p1)
    have q3 := (heap_setCell_ne (w := w8) (b := w.heap.size) (i := 0) (v := SV p1) (Nat.ne_of_gt HX.out.2.2.2.2)).trans HX.out.2.2.2.1
    have T3 : TreeF (w8.setCell ⟨w.heap.size, 0, none⟩ (SV p1)) px ps ty kv kind td root := HT.out.below B3
    have lt3 := HX.out.2.2.2.2
    clear c0 c1 f0 f1 HX
    generalize w8.setCell ⟨w.heap.size, 0, none⟩ (SV p1) = w8s at *
    try go_simp
    refine hK.out _ _ (HI.out _ T3 q3) ?_
    clear hK K
    try simp only [Act.put, List.setIfInBounds_toArray, List.set_cons_zero, List.set_cons_succ]
    refine plan_nil ?_
    have Hw8s := Lib.hid (And.intro T3 (And.intro B3 (And.intro y3 (And.intro q3 lt3))))
    clear T3 B3 y3 q3 lt3
    have hI0 : I w8s.drew := HI.out _ Hw8s.out.1 Hw8s.out.2.2.2.1
    go_wp2_with fail
    refine wp_region_plan I (.take 0 (.take 1 (.take 2 (.take 3 (.take 4 (.take 5 (.go 6 (.take 7 (.take 8 (.take 9 (.take 10 (.go 11 .nil)))))))))))) (by kernel_rfl) (by kernel_rfl) hI0 ?_
    clear hI0
    refine' plan_take _ (by rfl) _ (by rfl) ?_ ?_
    rotate_left
    · rintro _ ⟨x, rfl⟩
      have hxm0 := m0 x
      have hxn1 := n1 x
      go_simp
      try with_reducible rfl
    try simp only [Act.put, List.setIfInBounds_toArray, List.set_cons_zero, List.set_cons_succ]
    refine' plan_take _ (by rfl) _ (by rfl) ?_ ?_
    rotate_left
    · rintro _ ⟨x, rfl⟩
      have hxm0 := m0 x
      have hxn1 := n1 x
      go_simp
      try with_reducible rfl
    try simp only [Act.put, List.setIfInBounds_toArray, List.set_cons_zero, List.set_cons_succ]
    refine' plan_take _ (by rfl) _ (by rfl) ?_ ?_
    rotate_left
    · rintro _ ⟨x, rfl⟩
      have hxm0 := m0 x
      have hxn1 := n1 x
      go_simp
      try with_reducible rfl
    try simp only [Act.put, List.setIfInBounds_toArray, List.set_cons_zero, List.set_cons_succ]
    refine' plan_take _ (by rfl) _ (by rfl) ?_ ?_
    rotate_left
    · rintro _ ⟨x, rfl⟩
      have hxm0 := m0 x
      have hxn1 := n1 x
      go_simp
      try with_reducible rfl
    try simp only [Act.put, List.setIfInBounds_toArray, List.set_cons_zero, List.set_cons_succ]
    refine' plan_take _ (by rfl) _ (by rfl) ?_ ?_
    rotate_left
    · rintro _ ⟨x, rfl⟩
      have hxm0 := m0 x
      have hxn1 := n1 x
      go_simp
      try with_reducible rfl
    try simp only [Act.put, List.setIfInBounds_toArray, List.set_cons_zero, List.set_cons_succ]
    refine' plan_take _ (by rfl) _ (by rfl) ?_ ?_
    rotate_left
    · rintro _ ⟨x, rfl⟩
      have hxm0 := m0 x
      have hxn1 := n1 x
      go_simp
      try with_reducible rfl
    try simp only [Act.put, List.setIfInBounds_toArray, List.set_cons_zero, List.set_cons_succ]
    refine plan_do _ (by rfl) (by rfl) (fun K hK => ?_)
    go_simp
    refine (HU.out.2 _ Hw8s.out.2.1.drew).mono ?_
    rintro e w9 ⟨rfl, hb⟩
    have T2 := TreeF.below (w := w8s.drew) (Hw8s.out.1.below (Below.refl _ _).drew) hb
    have B2 := Hw8s.out.2.1.drew.trans (hb.mono Hw8s.out.2.1.drew.size)
    have y2 := (hb.block w.heap.size (Array.getElem?_eq_some_iff.1 Hw8s.out.2.2.1).1).trans Hw8s.out.2.2.1
    have q2 := (hb.block b6 (Array.getElem?_eq_some_iff.1 Hw8s.out.2.2.2.1).1).trans Hw8s.out.2.2.2.1
    clear hb
    have c0 : (w9).cell? ⟨w.heap.size, 0, none⟩ = some (SV p1) := by rw [cell_of_block y2]; rfl
    have c1 : (w9).cell? ⟨w.heap.size, 1, none⟩ = some (.string ⟨#[]⟩) := by rw [cell_of_block y2]; rfl
    have f0 : (w9).frozen? ⟨w.heap.size, 0, none⟩ = false := frozen_of_block y2
    have f1 : (w9).frozen? ⟨w.heap.size, 1, none⟩ = false := frozen_of_block y2
    have HX := Lib.hid (And.intro T2 (And.intro B2 (And.intro y2 (And.intro q2 Hw8s.out.2.2.2.2))))
    clear T2 B2 y2 q2
    try go_simp
    refine hK.out _ _ (HI.out _ HX.out.1 HX.out.2.2.2.1) ?_
    clear hK K
    try simp only [Act.put, List.setIfInBounds_toArray, List.set_cons_zero, List.set_cons_succ]
    refine' plan_take _ (by rfl) _ (by rfl) ?_ ?_
    rotate_left
    · rintro _ ⟨x, rfl⟩
      go_simp
      try with_reducible rfl
    try simp only [Act.put, List.setIfInBounds_toArray, List.set_cons_zero, List.set_cons_succ]
    refine' plan_take _ (by rfl) _ (by rfl) ?_ ?_
    rotate_left
    · rintro _ ⟨x, rfl⟩
      go_simp
      try with_reducible rfl
    try simp only [Act.put, List.setIfInBounds_toArray, List.set_cons_zero, List.set_cons_succ]
    refine' plan_take _ (by rfl) _ (by rfl) ?_ ?_
    rotate_left
    · rintro _ ⟨x, rfl⟩
      go_simp
      try with_reducible rfl
    try simp only [Act.put, List.setIfInBounds_toArray, List.set_cons_zero, List.set_cons_succ]
    refine' plan_take _ (by rfl) _ (by rfl) ?_ ?_
    rotate_left
    · rintro _ ⟨x, rfl⟩
      go_simp
      try with_reducible rfl
    try simp only [Act.put, List.setIfInBounds_toArray, List.set_cons_zero, List.set_cons_succ]
    refine plan_do _ (by rfl) (by rfl) (fun K hK => ?_)
    go_simp
    have y3 := heap_setCell HX.out.2.2.1 (v := SV p2) (i := 1)
    have B3 := HX.out.2.1.setCell (p := ⟨w.heap.size, 1, none⟩) (Nat.le_refl _) (SV p2)
    have q3 := (heap_setCell_ne (w := w9) (b := w.heap.size) (i := 1) (v := SV p2) (Nat.ne_of_gt HX.out.2.2.2.2)).trans HX.out.2.2.2.1
    have T3 : TreeF (w9.setCell ⟨w.heap.size, 1, none⟩ (SV p2)) px ps ty kv kind td root := HT.out.below B3
    have lt3 := HX.out.2.2.2.2
    clear c0 c1 f0 f1 HX
    generalize w9.setCell ⟨w.heap.size, 1, none⟩ (SV p2) = w9s at *
    try go_simp
    refine hK.out _ _ (HI.out _ T3 q3) ?_
    clear hK K
    try simp only [Act.put, List.setIfInBounds_toArray, List.set_cons_zero, List.set_cons_succ]
    refine plan_nil ?_
    have Hw9s := Lib.hid (And.intro T3 (And.intro B3 (And.intro y3 (And.intro q3 lt3))))
    clear T3 B3 y3 q3 lt3
    have y := Hw9s.out.2.2.1
    have y' : w9s.heap[w.heap.size]? = some (.cells #[SV p1, SV p2] 38) := y
    have c0 : (w9s).cell? ⟨w.heap.size, 0, none⟩ = some (SV p1) := by rw [cell_of_block y']; rfl
    have c1 : (w9s).cell? ⟨w.heap.size, 1, none⟩ = some (SV p2) := by rw [cell_of_block y']; rfl
    have f0 : (w9s).frozen? ⟨w.heap.size, 0, none⟩ = false := frozen_of_block y'
    have f1 : (w9s).frozen? ⟨w.heap.size, 1, none⟩ = false := frozen_of_block y'
    have q5 := st2_heap y' (SV p1) (SV p2)
    have B5 := st2_below Hw9s.out.2.1 (Nat.le_refl _) (SV p1) (SV p2)
    have HB := Lib.hid (And.intro q5 B5)
    clear y y' q5 B5
    go_wp2_with fail
    obtain ⟨q5, B5⟩ := HB.out
    generalize ((w9s.setCell ⟨w.heap.size, 0, none⟩ (SV p1)).setCell ⟨w.heap.size, 1, none⟩ (SV p2)) = wF at *
    have e0 : (wF).cell? ⟨w.heap.size, 0, none⟩ = some (SV p1) := by rw [cell_of_block q5]; rfl
    have e1 : (wF).cell? ⟨w.heap.size, 1, none⟩ = some (SV p2) := by rw [cell_of_block q5]; rfl
    exact bodyPost_ret (v := .tuple #[.agg #[SV p1, SV p2], .int .i64 0]) (by simp [results, Tryz.f19, go_sem, e0, e1]) rfl ⟨rfl, B5⟩
end Go.Proofs.YtepdkbmnkjfcpaaGreatDoor
