import Derived.Test.YtcibkdbpicledaaGreatDoorWan
set_option maxRecDepth 100000
set_option maxHeartbeats 3200000
namespace Go.Proofs.YtcibkdbpicledaaGreatDoor
open Go.RowKit Go.BigFrame Go.Maps Go.WideMaps Lf
def TreeF (w : World) (px ps : Nat) (ty : TypeId) (kv : Value) (kind td root : Nat) : Prop := w.heap[px]? = some (.cells #[PV ps, .int .i64 kind, .int .i64 td, .iface ty kv, .int .u64 root] 134)
theorem TreeF.below {w w' : World} {px ps kind td root : Nat} {ty : TypeId} {kv : Value} (h : TreeF w px ps ty kv kind td root) (hb : Below w.heap.size w w') : TreeF w' px ps ty kv kind td root := (hb.block px (gl h)).trans h
theorem TreeF.keep {w w' : World} {px ps kind td root : Nat} {ty : TypeId} {kv : Value} {Y : Nat → Prop} (h : TreeF w px ps ty kv kind td root) (hk : Keep Y w w') (hy : Y px) : TreeF w' px ps ty kv kind td root := (hk.block px hy).trans h
theorem treeF_none {w : World} {px ps kind td root : Nat} {ty : TypeId} {kv : Value} (hT : TreeF w px ps ty kv kind td root) :
 Calls Tryz.prog 79 #[PV px] w fun e w' => e = .returned (.bool false) ∧ w = w' := by
 unfold TreeF at hT
 obtain ⟨c0, c1, c2, c3, c4⟩ := cells5 hT
 clear hT
 go_enter Tryz.func79, Tryz.ntmps79
 go_wp2_with fail
 go_ret
 exact ⟨rfl, rfl⟩
theorem treeF_class (px ps : Nat) (ty : TypeId) (kv : Value) (kind td root : Nat) : ∃ I : World → Prop, (∀ w', I w' → TreeF w' px ps ty kv kind td root) ∧ (∀ w', TreeF w' px ps ty kv kind td root → I w') := ⟨fun w' => TreeF w' px ps ty kv kind td root, fun _ h => h, fun _ a => a⟩
theorem treeF_len {w : World} {px ps kind td root : Nat} {ty : TypeId} {kv : Value} (hT : TreeF w px ps ty kv kind td root) {z : Nat} {fm : FuncId} (hme : ∀ (f : Nat) (v : Value) (w : World), (method (f + 1) ty v "loft/backend.size").run Tryz.prog w = .ok (fm, v) w) (hen : ∀ (args : Array Value) (w : World), (callFunc fm args).run Tryz.prog w = .ok (.enter fm args) w) (hs : ∀ W, Below w.heap.size w W → Calls Tryz.prog fm #[kv, .int .u64 root] W fun e w' => e = .returned (.int .i64 z) ∧ Below W.heap.size W w') :
 Calls Tryz.prog 56 #[PV px] w fun e w' => e = .returned (.int .i64 z) ∧ Below w.heap.size w w' := by
 have hn := treeF_none hT
 have hs := hs _ (Below.refl _ w).drew
 obtain ⟨I, hIi, hIo⟩ := treeF_class px ps ty kv kind td root
 have hy0 := fun x : Keeps I => hIi _ x.ok
 simp only [TreeF] at hy0
 obtain ⟨m0, m1, m2, m3, m4⟩ := cellsX5 hy0
 have hI0 : I w.drew := hIo _ hT
 have HG := kq4 hn hs hT hIo
 clear hn hs hT hIi hIo hy0
 go_enter Tryz.func56, Tryz.ntmps56
 go_wp2_with fail
 refine HG.out.1.mono ?_
 rintro e w1 ⟨rfl, rfl⟩
 go_wp2_with fail
 refine wp_region_mix I [(true, 0), (true, 1), (true, 2), (true, 3), (true, 4), (true, 5), (true, 6), (true, 7), (true, 8), (true, 9), (false, 10), (false, 11)] (by kernel_rfl) (by kernel_rfl) hI0 ?_
 iterate 10
  refine' mix_take _ (by rfl) _ (by rfl) ?_ ?_
  rotate_left
  · rintro _ ⟨x, rfl⟩
    have hxm0 := m0 x
    have hxm1 := m1 x
    have hxm2 := m2 x
    have hxm3 := m3 x
    have hxm4 := m4 x
    go_simp
    try with_reducible rfl
  try simp only [pu]
 refine mix_do _ (by rfl) (by rfl) (fun K hK => ?_)
 go_simp
 refine HG.out.2.1.mono ?_
 rintro e w2 ⟨rfl, hb2⟩
 have T2 := TreeF.below (w := w.drew) HG.out.2.2.1 hb2
 have B2 := kq2 T2 ((Below.refl w.heap.size w).drew.trans hb2)
 clear T2 hb2
 try go_simp
 refine hK.out _ _ (HG.out.2.2.2 _ B2.out.1) ?_
 clear hK K
 try simp only [pu]
 refine mix_do _ (by rfl) (by rfl) (fun K hK => ?_)
 go_simp
 try go_simp
 refine hK.out _ _ (HG.out.2.2.2 _ B2.out.1) ?_
 clear hK K
 try simp only [pu]
 refine mix_nil ?_
 go_wp2_with fail
 go_ret
 exact ⟨rfl, B2.out.2⟩
theorem treeF_rank {w : World} {px ps kind td root : Nat} {ty : TypeId} {kv : Value} (hT : TreeF w px ps ty kv kind td root) (k : List UInt8) {z : Nat} {fm : FuncId} (hme : ∀ (f : Nat) (v : Value) (w : World), (method (f + 1) ty v "loft/backend.rank").run Tryz.prog w = .ok (fm, v) w) (hen : ∀ (args : Array Value) (w : World), (callFunc fm args).run Tryz.prog w = .ok (.enter fm args) w) (hs : ∀ W, Below w.heap.size w W → Calls Tryz.prog fm #[kv, .int .u64 root, SV k] W fun e w' => e = .returned (.int .i64 z) ∧ Below W.heap.size W w') :
 Calls Tryz.prog 49 #[PV px, SV k] w fun e w' => e = .returned (.int .i64 z) ∧ Below w.heap.size w w' := by
 have hn := treeF_none hT
 have hs := hs _ (Below.refl _ w).drew
 obtain ⟨I, hIi, hIo⟩ := treeF_class px ps ty kv kind td root
 have hy0 := fun x : Keeps I => hIi _ x.ok
 simp only [TreeF] at hy0
 obtain ⟨m0, m1, m2, m3, m4⟩ := cellsX5 hy0
 have hI0 : I w.drew := hIo _ hT
 have HG := kq4 hn hs hT hIo
 clear hn hs hT hIi hIo hy0
 go_enter Tryz.func49, Tryz.ntmps49
 go_wp2_with fail
 refine HG.out.1.mono ?_
 rintro e w1 ⟨rfl, rfl⟩
 go_wp2_with fail
 refine wp_region_mix I [(true, 0), (true, 1), (true, 2), (true, 3), (true, 4), (true, 5), (true, 6), (true, 7), (true, 8), (true, 9), (true, 10), (false, 11), (false, 12)] (by kernel_rfl) (by kernel_rfl) hI0 ?_
 iterate 11
  refine' mix_take _ (by rfl) _ (by rfl) ?_ ?_
  rotate_left
  · rintro _ ⟨x, rfl⟩
    have hxm0 := m0 x
    have hxm1 := m1 x
    have hxm2 := m2 x
    have hxm3 := m3 x
    have hxm4 := m4 x
    go_simp
    try with_reducible rfl
  try simp only [pu]
 refine mix_do _ (by rfl) (by rfl) (fun K hK => ?_)
 go_simp
 refine HG.out.2.1.mono ?_
 rintro e w2 ⟨rfl, hb2⟩
 have T2 := TreeF.below (w := w.drew) HG.out.2.2.1 hb2
 have B2 := kq2 T2 ((Below.refl w.heap.size w).drew.trans hb2)
 clear T2 hb2
 try go_simp
 refine hK.out _ _ (HG.out.2.2.2 _ B2.out.1) ?_
 clear hK K
 try simp only [pu]
 refine mix_do _ (by rfl) (by rfl) (fun K hK => ?_)
 go_simp
 try go_simp
 refine hK.out _ _ (HG.out.2.2.2 _ B2.out.1) ?_
 clear hK K
 try simp only [pu]
 refine mix_nil ?_
 go_wp2_with fail
 go_ret
 exact ⟨rfl, B2.out.2⟩
theorem treeF_at {w : World} {px ps kind td root : Nat} {ty : TypeId} {kv : Value} (hT : TreeF w px ps ty kv kind td root) (k : Int) (p : List UInt8 × List UInt8) (k0 k1 e1 e2 : Nat) {fm : FuncId} (hme : ∀ (f : Nat) (v : Value) (w : World), (method (f + 1) ty v "loft/backend.at").run Tryz.prog w = .ok (fm, v) w) (hen : ∀ (args : Array Value) (w : World), (callFunc fm args).run Tryz.prog w = .ok (.enter fm args) w) (hs : ∀ W, Below w.heap.size w W → Calls Tryz.prog fm #[kv, .int .u64 root, .int .i64 k] W fun e w' => e = .returned (.tuple #[.agg #[.int .u64 k0, .int .u64 k1], .int .i64 0]) ∧ Below W.heap.size W w') (hg1 : ∀ W, Below w.heap.size w W → Calls Tryz.prog 80 #[PV ps, .int .u64 k0] W fun e w' => e = .returned (.tuple #[SV p.1, .int .i64 e1]) ∧ Below W.heap.size W w') (hg2 : ∀ W, Below w.heap.size w W → Calls Tryz.prog 80 #[PV ps, .int .u64 k1] W fun e w' => e = .returned (.tuple #[SV p.2, .int .i64 e2]) ∧ Below W.heap.size W w') :
 Calls Tryz.prog 53 #[PV px, .int .i64 k] w fun e w' => e = .returned (.tuple #[prV p, .int .i64 0]) ∧ Below w.heap.size w w' := by
 have B0 := (Below.refl w.heap.size w).alloc (Nat.le_refl _) (.cells #[.string ⟨#[]⟩, .string ⟨#[]⟩] 34)
 have y0 := heap_alloc_new w (.cells #[.string ⟨#[]⟩, .string ⟨#[]⟩] 34)
 have hn := treeF_none (hT.below B0)
 obtain ⟨p1, p2⟩ := p
 simp only [prV] at hg1 hg2 ⊢
 obtain ⟨I, hIi, hIo⟩ := treeF_class px ps ty kv kind td root
 have hy0 := fun x : Keeps I => hIi _ x.ok
 simp only [TreeF] at hy0
 obtain ⟨m0, m1, m2, m3, m4⟩ := cellsX5 hy0
 have hI0 : I ((w.alloc (.cells #[.string ⟨#[]⟩, .string ⟨#[]⟩] 34)).drew) := hIo _ (hT.below B0.drew)
 have HG := kq8 hn hs hT hIo B0 y0 hg1 hg2
 clear hn hs hT hIi hIo hy0 B0 y0 hg1 hg2
 go_enter Tryz.func53, Tryz.ntmps53
 go_wp2_with fail
 refine HG.out.1.mono ?_
 rintro e w1 ⟨rfl, rfl⟩
 go_wp2_with fail
 have HU := kq2 HG.out.2.2.2.2.2.2.1 HG.out.2.2.2.2.2.2.2
 refine wp_region_plan I (.take 0 (.take 1 (.take 2 (.take 3 (.take 4 (.take 5 (.take 6 (.take 7 (.take 8 (.take 9 (.take 10 (.two 11 15 (.take 12 (.take 13 (.take 14 (.go 15 (.go 16 (.go 17 .nil)))))) (.go 11 (.take 12 (.take 13 (.take 14 (.go 16 (.go 17 .nil)))))))))))))))))) (by kernel_rfl) (by kernel_rfl) hI0 ?_
 iterate 11
  refine' plan_take _ (by rfl) _ (by rfl) ?_ ?_
  rotate_left
  · rintro _ ⟨x, rfl⟩
    have hxm0 := m0 x
    have hxm1 := m1 x
    have hxm2 := m2 x
    have hxm3 := m3 x
    have hxm4 := m4 x
    go_simp
    try with_reducible rfl
  try simp only [pu]
 refine plan_two ?h1 ?h2
 case' h1 =>
  refine pD fun K hK => ?_
  go_simp
  refine (HG.out.2.1 _ HG.out.2.2.2.2.1.drew).mono ?_
  rintro e w2 ⟨rfl, hb2⟩
  have T2 := TreeF.below (w := (w.alloc (.cells #[.string ⟨#[]⟩, .string ⟨#[]⟩] 34)).drew) (HG.out.2.2.1.below HG.out.2.2.2.2.1.drew) hb2
  have y2 := (hb2.block w.heap.size (by show w.heap.size < (w.alloc _).heap.size; simp)).trans HG.out.2.2.2.2.2.1
  have B2 := kq3 T2 (HG.out.2.2.2.2.1.drew.trans (hb2.mono HG.out.2.2.2.2.1.drew.size)) y2
  clear T2 hb2 y2
  try go_simp
  refine hK.out _ _ (HG.out.2.2.2.1 _ B2.out.1) ?_
  clear hK K
  try simp only [pu]
  iterate 3
   refine' plan_take _ (by rfl) _ (by rfl) ?_ ?_
   rotate_left
   · rintro _ ⟨x, rfl⟩
     go_simp
     try with_reducible rfl
   try simp only [pu]
  refine pD fun K hK => ?_
  go_simp
  have A2 := (Below.refl w2.heap.size w2).alloc (Nat.le_refl _) (.cells #[.int .u64 0, .int .u64 0] 137)
  have TA := B2.out.1.below A2
  have BA := B2.out.2.1.trans (A2.mono B2.out.2.1.size)
  have yA := (A2.block w.heap.size (gl B2.out.2.2)).trans B2.out.2.2
  have qA := heap_alloc_new w2 (.cells #[.int .u64 0, .int .u64 0] 137)
  have ltA : w.heap.size < w2.heap.size := (gl B2.out.2.2)
  clear A2 B2
  generalize w2.alloc (.cells #[.int .u64 0, .int .u64 0] 137) = W at *
  generalize w2.heap.size = b6 at *
  try go_simp
  refine hK.out _ _ (HG.out.2.2.2.1 _ TA) ?_
  clear hK K
  try simp only [pu]
  obtain ⟨c0, c1⟩ := cells2 qA
  obtain ⟨f0, f1⟩ := frees2 qA
  have HA := kq5 TA BA yA qA ltA
  clear TA BA yA qA ltA
  refine pD fun K hK => ?_
  go_simp
  have qB := st2_heap HA.out.2.2.2.1 (.int .u64 k0) (.int .u64 k1)
  have BB := st2_below HA.out.2.1 (Nat.le_of_lt HA.out.2.2.2.2) (.int .u64 k0) (.int .u64 k1)
  have yB := (st2_other (Nat.ne_of_lt HA.out.2.2.2.2) (.int .u64 k0) (.int .u64 k1)).trans HA.out.2.2.1
  have TB : TreeF ((W.setCell ⟨b6, 0, none⟩ (.int .u64 k0)).setCell ⟨b6, 1, none⟩ (.int .u64 k1)) px ps ty kv kind td root := HG.out.2.2.1.below BB
  have ltB := HA.out.2.2.2.2
  clear c0 c1 f0 f1 HA
  generalize ((W.setCell ⟨b6, 0, none⟩ (.int .u64 k0)).setCell ⟨b6, 1, none⟩ (.int .u64 k1)) = W7 at *
  try go_simp
  refine hK.out _ _ (HG.out.2.2.2.1 _ TB) ?_
  clear hK K
  try simp only [pu]
  refine pD fun K hK => ?_
  go_simp
  try go_simp
  refine hK.out _ _ (HG.out.2.2.2.1 _ TB) ?_
  clear hK K
  try simp only [pu]
  refine plan_nil ?_
  have H7 := kq5 TB BB yB qB ltB
  clear TB BB yB qB ltB
  clear w2
 case' h2 =>
  refine pD fun K hK => ?_
  go_simp
  have A2 := (Below.refl (w.alloc (.cells #[.string ⟨#[]⟩, .string ⟨#[]⟩] 34)).heap.size (w.alloc (.cells #[.string ⟨#[]⟩, .string ⟨#[]⟩] 34))).alloc (Nat.le_refl _) (.cells #[.int .u64 0, .int .u64 0] 137)
  have BA := (HG.out.2.2.2.2.1.trans (A2.mono HG.out.2.2.2.2.1.size)).drew
  have qA : ((w.alloc (.cells #[.string ⟨#[]⟩, .string ⟨#[]⟩] 34)).alloc (.cells #[.int .u64 0, .int .u64 0] 137)).drew.heap[(w.alloc (.cells #[.string ⟨#[]⟩, .string ⟨#[]⟩] 34)).heap.size]? = _ := heap_alloc_new (w.alloc (.cells #[.string ⟨#[]⟩, .string ⟨#[]⟩] 34)) (.cells #[.int .u64 0, .int .u64 0] 137)
  have yA : ((w.alloc (.cells #[.string ⟨#[]⟩, .string ⟨#[]⟩] 34)).alloc (.cells #[.int .u64 0, .int .u64 0] 137)).drew.heap[w.heap.size]? = _ := (A2.block w.heap.size (by simp)).trans HG.out.2.2.2.2.2.1
  have TA := HG.out.2.2.1.below BA
  simp only [World.size_alloc] at qA
  clear A2
  generalize ((w.alloc (.cells #[.string ⟨#[]⟩, .string ⟨#[]⟩] 34)).alloc (.cells #[.int .u64 0, .int .u64 0] 137)).drew = w1 at *
  try go_simp
  refine hK.out _ _ (HG.out.2.2.2.1 _ TA) ?_
  clear hK K
  try simp only [pu]
  have HA0 := kq4 TA BA yA qA
  clear TA BA yA qA
  refine pD fun K hK => ?_
  go_simp
  refine (HG.out.2.1 _ HA0.out.2.1).mono ?_
  rintro e W ⟨rfl, hb2⟩
  have TA := HA0.out.1.below hb2
  have BA := HA0.out.2.1.trans (hb2.mono HA0.out.2.1.size)
  have yA := (hb2.block w.heap.size (gl HA0.out.2.2.1)).trans HA0.out.2.2.1
  have qA := (hb2.block (w.heap.size + 1) (gl HA0.out.2.2.2)).trans HA0.out.2.2.2
  have ltA : w.heap.size < w.heap.size + 1 := by omega
  clear hb2 HA0
  generalize w.heap.size + 1 = b6 at *
  try go_simp
  refine hK.out _ _ (HG.out.2.2.2.1 _ TA) ?_
  clear hK K
  try simp only [pu]
  iterate 3
   refine' plan_take _ (by rfl) _ (by rfl) ?_ ?_
   rotate_left
   · rintro _ ⟨x, rfl⟩
     go_simp
     try with_reducible rfl
   try simp only [pu]
  obtain ⟨c0, c1⟩ := cells2 qA
  obtain ⟨f0, f1⟩ := frees2 qA
  have HA := kq5 TA BA yA qA ltA
  clear TA BA yA qA ltA
  refine pD fun K hK => ?_
  go_simp
  have qB := st2_heap HA.out.2.2.2.1 (.int .u64 k0) (.int .u64 k1)
  have BB := st2_below HA.out.2.1 (Nat.le_of_lt HA.out.2.2.2.2) (.int .u64 k0) (.int .u64 k1)
  have yB := (st2_other (Nat.ne_of_lt HA.out.2.2.2.2) (.int .u64 k0) (.int .u64 k1)).trans HA.out.2.2.1
  have TB : TreeF ((W.setCell ⟨b6, 0, none⟩ (.int .u64 k0)).setCell ⟨b6, 1, none⟩ (.int .u64 k1)) px ps ty kv kind td root := HG.out.2.2.1.below BB
  have ltB := HA.out.2.2.2.2
  clear c0 c1 f0 f1 HA
  generalize ((W.setCell ⟨b6, 0, none⟩ (.int .u64 k0)).setCell ⟨b6, 1, none⟩ (.int .u64 k1)) = W7 at *
  try go_simp
  refine hK.out _ _ (HG.out.2.2.2.1 _ TB) ?_
  clear hK K
  try simp only [pu]
  refine pD fun K hK => ?_
  go_simp
  try go_simp
  refine hK.out _ _ (HG.out.2.2.2.1 _ TB) ?_
  clear hK K
  try simp only [pu]
  refine plan_nil ?_
  have H7 := kq5 TB BB yB qB ltB
  clear TB BB yB qB ltB
  clear w1
 all_goals
  have HT := Lib.hid HG.out.2.2.1
  clear hI0 HG m0 m1 m2 m3 m4 I
  obtain ⟨I, hIi, hIo⟩ := two_class (fun w' => TreeF w' px ps ty kv kind td root) (fun w' => w'.heap[b6]? = some (.cells #[.int .u64 k0, .int .u64 k1] 137))
  have hy0 := fun x : Keeps I => (hIi _ x.ok).1
  have hz0 := fun x : Keeps I => (hIi _ x.ok).2
  simp only [TreeF] at hy0
  obtain ⟨m0, m1, m2, m3, m4⟩ := cellsX5 hy0
  obtain ⟨n0, n1⟩ := cellsX2 hz0
  have HI := Lib.hid hIo
  clear hIi hIo hy0 hz0
  have HW7 := H7
  clear H7
  have hI0 : I W7.drew := HI.out _ HW7.out.1 HW7.out.2.2.2.1
  go_wp2_with fail
  refine wp_region_plan I (.take 0 (.take 1 (.take 2 (.take 3 (.take 4 (.take 5 (.go 6 (.take 7 (.take 8 (.take 9 (.take 10 (.go 11 .nil)))))))))))) (by kernel_rfl) (by kernel_rfl) hI0 ?_
  clear hI0
  iterate 6
   refine' plan_take _ (by rfl) _ (by rfl) ?_ ?_
   rotate_left
   · rintro _ ⟨x, rfl⟩
     have hxm0 := m0 x
     have hxn0 := n0 x
     go_simp
     try with_reducible rfl
   try simp only [pu]
  refine pD fun K hK => ?_
  go_simp
  refine (HU.out.1 _ HW7.out.2.1.drew).mono ?_
  rintro e w8 ⟨rfl, hb⟩
  have T2 := TreeF.below (w := W7.drew) (HW7.out.1.below (Below.refl _ _).drew) hb
  have B2 := HW7.out.2.1.drew.trans (hb.mono HW7.out.2.1.drew.size)
  have y2 := (hb.block w.heap.size (gl HW7.out.2.2.1)).trans HW7.out.2.2.1
  have q2 := (hb.block b6 (gl HW7.out.2.2.2.1)).trans HW7.out.2.2.2.1
  clear hb
  obtain ⟨c0, c1⟩ := cells2 y2
  obtain ⟨f0, f1⟩ := frees2 y2
  have HX := kq5 T2 B2 y2 q2 HW7.out.2.2.2.2
  clear T2 B2 y2 q2
  try go_simp
  refine hK.out _ _ (HI.out _ HX.out.1 HX.out.2.2.2.1) ?_
  clear hK K
  try simp only [pu]
  iterate 4
   refine' plan_take _ (by rfl) _ (by rfl) ?_ ?_
   rotate_left
   · rintro _ ⟨x, rfl⟩
     go_simp
     try with_reducible rfl
   try simp only [pu]
  refine pD fun K hK => ?_
  go_simp
  have y3 := heap_setCell HX.out.2.2.1 (v := SV p1) (i := 0)
  have B3 := HX.out.2.1.setCell (p := ⟨w.heap.size, 0, none⟩) (Nat.le_refl _) (SV p1)
  have q3 := (heap_setCell_ne (w := w8) (b := w.heap.size) (i := 0) (v := SV p1) (Nat.ne_of_gt HX.out.2.2.2.2)).trans HX.out.2.2.2.1
  have T3 : TreeF (w8.setCell ⟨w.heap.size, 0, none⟩ (SV p1)) px ps ty kv kind td root := HT.out.below B3
  have lt3 := HX.out.2.2.2.2
  clear c0 c1 f0 f1 HX
  generalize w8.setCell ⟨w.heap.size, 0, none⟩ (SV p1) = w8s at *
  try go_simp
  refine hK.out _ _ (HI.out _ T3 q3) ?_
  clear hK K
  try simp only [pu]
  refine plan_nil ?_
  have Hw8s := kq5 T3 B3 y3 q3 lt3
  clear T3 B3 y3 q3 lt3
  have hI0 : I w8s.drew := HI.out _ Hw8s.out.1 Hw8s.out.2.2.2.1
  go_wp2_with fail
  refine wp_region_plan I (.take 0 (.take 1 (.take 2 (.take 3 (.take 4 (.take 5 (.go 6 (.take 7 (.take 8 (.take 9 (.take 10 (.go 11 .nil)))))))))))) (by kernel_rfl) (by kernel_rfl) hI0 ?_
  clear hI0
  iterate 6
   refine' plan_take _ (by rfl) _ (by rfl) ?_ ?_
   rotate_left
   · rintro _ ⟨x, rfl⟩
     have hxm0 := m0 x
     have hxn1 := n1 x
     go_simp
     try with_reducible rfl
   try simp only [pu]
  refine pD fun K hK => ?_
  go_simp
  refine (HU.out.2 _ Hw8s.out.2.1.drew).mono ?_
  rintro e w9 ⟨rfl, hb⟩
  have T2 := TreeF.below (w := w8s.drew) (Hw8s.out.1.below (Below.refl _ _).drew) hb
  have B2 := Hw8s.out.2.1.drew.trans (hb.mono Hw8s.out.2.1.drew.size)
  have y2 := (hb.block w.heap.size (gl Hw8s.out.2.2.1)).trans Hw8s.out.2.2.1
  have q2 := (hb.block b6 (gl Hw8s.out.2.2.2.1)).trans Hw8s.out.2.2.2.1
  clear hb
  obtain ⟨c0, c1⟩ := cells2 y2
  obtain ⟨f0, f1⟩ := frees2 y2
  have HX := kq5 T2 B2 y2 q2 Hw8s.out.2.2.2.2
  clear T2 B2 y2 q2
  try go_simp
  refine hK.out _ _ (HI.out _ HX.out.1 HX.out.2.2.2.1) ?_
  clear hK K
  try simp only [pu]
  iterate 4
   refine' plan_take _ (by rfl) _ (by rfl) ?_ ?_
   rotate_left
   · rintro _ ⟨x, rfl⟩
     go_simp
     try with_reducible rfl
   try simp only [pu]
  refine pD fun K hK => ?_
  go_simp
  have y3 := heap_setCell HX.out.2.2.1 (v := SV p2) (i := 1)
  have B3 := HX.out.2.1.setCell (p := ⟨w.heap.size, 1, none⟩) (Nat.le_refl _) (SV p2)
  have q3 := (heap_setCell_ne (w := w9) (b := w.heap.size) (i := 1) (v := SV p2) (Nat.ne_of_gt HX.out.2.2.2.2)).trans HX.out.2.2.2.1
  have T3 : TreeF (w9.setCell ⟨w.heap.size, 1, none⟩ (SV p2)) px ps ty kv kind td root := HT.out.below B3
  have lt3 := HX.out.2.2.2.2
  clear c0 c1 f0 f1 HX
  generalize w9.setCell ⟨w.heap.size, 1, none⟩ (SV p2) = w9s at *
  try go_simp
  refine hK.out _ _ (HI.out _ T3 q3) ?_
  clear hK K
  try simp only [pu]
  refine plan_nil ?_
  have Hw9s := kq5 T3 B3 y3 q3 lt3
  clear T3 B3 y3 q3 lt3
  have y := Hw9s.out.2.2.1
  have y' : w9s.heap[w.heap.size]? = some (.cells #[SV p1, SV p2] 34) := y
  obtain ⟨c0, c1⟩ := cells2 y'
  obtain ⟨f0, f1⟩ := frees2 y'
  have q5 := st2_heap y' (SV p1) (SV p2)
  have B5 := st2_below Hw9s.out.2.1 (Nat.le_refl _) (SV p1) (SV p2)
  have HB := kq2 q5 B5
  clear y y' q5 B5
  go_wp2_with fail
  obtain ⟨q5, B5⟩ := HB.out
  generalize ((w9s.setCell ⟨w.heap.size, 0, none⟩ (SV p1)).setCell ⟨w.heap.size, 1, none⟩ (SV p2)) = wF at *
  obtain ⟨e0, e1⟩ := cells2 q5
  exact bodyPost_ret (v := .tuple #[.agg #[SV p1, SV p2], .int .i64 0]) (by simp [results, Tryz.f53, go_sem, e0, e1]) rfl ⟨rfl, B5⟩
theorem treeF_get_nil {w : World} {px ps kind td root : Nat} {ty : TypeId} {kv : Value} (hT : TreeF w px ps ty kv kind td root) (k : List UInt8) (k0 k1 : Nat) {fm : FuncId} (hme : ∀ (f : Nat) (v : Value) (w : World), (method (f + 1) ty v "loft/backend.find").run Tryz.prog w = .ok (fm, v) w) (hen : ∀ (args : Array Value) (w : World), (callFunc fm args).run Tryz.prog w = .ok (.enter fm args) w) (hs : ∀ W, Below w.heap.size w W → Calls Tryz.prog fm #[kv, .int .u64 root, SV k] W fun e w' => e = .returned (.tuple #[.agg #[.int .u64 k0, .int .u64 k1], .bool false]) ∧ Below W.heap.size W w') :
 Calls Tryz.prog 50 #[PV px, SV k] w fun e w' => e = .returned (.tuple #[.string ⟨#[]⟩, .bool false]) ∧ Below w.heap.size w w' := by
 have B0 := Below.refl w.heap.size w
 have hn := treeF_none (hT.below B0)
 obtain ⟨I, hIi, hIo⟩ := treeF_class px ps ty kv kind td root
 have hy0 := fun x : Keeps I => hIi _ x.ok
 simp only [TreeF] at hy0
 obtain ⟨m0, m1, m2, m3, m4⟩ := cellsX5 hy0
 have hI0 : I w.drew := hIo _ (hT.below B0.drew)
 have hIo' := True.intro
 have HI := Lib.hid hIo
 have HG := kq4 hn hs hT B0
 skip
 clear hn hs hT hIi hIo hy0 B0 
 go_enter Tryz.func50, Tryz.ntmps50
 go_wp2_with fail
 refine HG.out.1.mono ?_
 rintro e w1 ⟨rfl, rfl⟩
 go_wp2_with fail
 refine wp_region_plan I (.take 0 (.take 1 (.take 2 (.take 3 (.take 4 (.take 5 (.take 6 (.take 7 (.take 8 (.take 9 (.take 10 (.two 11 15 (.take 12 (.take 13 (.take 14 (.go 15 (.go 16 (.go 17 .nil)))))) (.go 11 (.take 12 (.take 13 (.take 14 (.go 16 (.go 17 .nil)))))))))))))))))) (by kernel_rfl) (by kernel_rfl) hI0 ?_
 iterate 11
  refine' plan_take _ (by rfl) _ (by rfl) ?_ ?_
  rotate_left
  · rintro _ ⟨x, rfl⟩
    have hxm0 := m0 x
    have hxm1 := m1 x
    have hxm2 := m2 x
    have hxm3 := m3 x
    have hxm4 := m4 x
    go_simp
    try with_reducible rfl
  try simp only [pu]
 refine plan_two ?h1 ?h2
 case' h1 =>
  refine pD fun K hK => ?_
  go_simp
  refine (HG.out.2.1 _ HG.out.2.2.2.drew).mono ?_
  rintro e w2 ⟨rfl, hb2⟩
  have T2 := TreeF.below (w := w.drew) (HG.out.2.2.1.below HG.out.2.2.2.drew) hb2
  have B2' := HG.out.2.2.2.drew.trans (hb2.mono HG.out.2.2.2.drew.size)
  have B2 := kq2 T2 B2'
  clear T2 hb2 B2' 
  try go_simp
  refine hK.out _ _ (HI.out _ B2.out.1) ?_
  clear hK K
  try simp only [pu]
  iterate 3
   refine' plan_take _ (by rfl) _ (by rfl) ?_ ?_
   rotate_left
   · rintro _ ⟨x, rfl⟩
     go_simp
     try with_reducible rfl
   try simp only [pu]
  refine pD fun K hK => ?_
  go_simp
  have A2 := (Below.refl w2.heap.size w2).alloc (Nat.le_refl _) (.cells #[.int .u64 0, .int .u64 0] 137)
  have TA := B2.out.1.below A2
  have BA := B2.out.2.trans (A2.mono B2.out.2.size)
  have qA := heap_alloc_new w2 (.cells #[.int .u64 0, .int .u64 0] 137)
  have ltA : w.heap.size ≤ w2.heap.size := B2.out.2.size
  clear A2 B2
  generalize w2.alloc (.cells #[.int .u64 0, .int .u64 0] 137) = W at *
  generalize w2.heap.size = b6 at *
  try go_simp
  refine hK.out _ _ (HI.out _ TA) ?_
  clear hK K
  try simp only [pu]
  obtain ⟨c0, c1⟩ := cells2 qA
  obtain ⟨f0, f1⟩ := frees2 qA
  have HA := kq4 TA BA qA ltA
  clear TA BA qA ltA
  refine pD fun K hK => ?_
  go_simp
  have qB := st2_heap HA.out.2.2.1 (.int .u64 k0) (.int .u64 k1)
  have BB := st2_below HA.out.2.1 (HA.out.2.2.2) (.int .u64 k0) (.int .u64 k1)
  have TB : TreeF ((W.setCell ⟨b6, 0, none⟩ (.int .u64 k0)).setCell ⟨b6, 1, none⟩ (.int .u64 k1)) px ps ty kv kind td root := HG.out.2.2.1.below BB
  have ltB := HA.out.2.2.2
  clear c0 c1 f0 f1 HA
  generalize ((W.setCell ⟨b6, 0, none⟩ (.int .u64 k0)).setCell ⟨b6, 1, none⟩ (.int .u64 k1)) = W7 at *
  try go_simp
  refine hK.out _ _ (HI.out _ TB) ?_
  clear hK K
  try simp only [pu]
  refine pD fun K hK => ?_
  go_simp
  try go_simp
  refine hK.out _ _ (HI.out _ TB) ?_
  clear hK K
  try simp only [pu]
  refine plan_nil ?_
  have H7 := kq4 TB BB qB ltB
  clear TB BB qB ltB
  clear w2
 case' h2 =>
  refine pD fun K hK => ?_
  go_simp
  have A2 := (Below.refl w.heap.size w).alloc (Nat.le_refl _) (.cells #[.int .u64 0, .int .u64 0] 137)
  have BA := (HG.out.2.2.2.trans (A2.mono HG.out.2.2.2.size)).drew
  have qA : (w.alloc (.cells #[.int .u64 0, .int .u64 0] 137)).drew.heap[w.heap.size]? = _ := heap_alloc_new w (.cells #[.int .u64 0, .int .u64 0] 137)
  have TA := HG.out.2.2.1.below BA
  clear A2
  generalize (w.alloc (.cells #[.int .u64 0, .int .u64 0] 137)).drew = w1 at *
  try go_simp
  refine hK.out _ _ (HI.out _ TA) ?_
  clear hK K
  try simp only [pu]
  have HA0 := kq3 TA BA qA
  clear TA BA qA
  refine pD fun K hK => ?_
  go_simp
  refine (HG.out.2.1 _ HA0.out.2.1).mono ?_
  rintro e W ⟨rfl, hb2⟩
  have TA := HA0.out.1.below hb2
  have BA := HA0.out.2.1.trans (hb2.mono HA0.out.2.1.size)
  have qA := (hb2.block w.heap.size (gl HA0.out.2.2)).trans HA0.out.2.2
  obtain ⟨b6, hb6⟩ : ∃ b6, w.heap.size = b6 := ⟨_, rfl⟩
  have ltA : w.heap.size ≤ b6 := by omega
  rw [hb6] at qA
  simp only [hb6]
  clear hb2 HA0
  try go_simp
  refine hK.out _ _ (HI.out _ TA) ?_
  clear hK K
  try simp only [pu]
  iterate 3
   refine' plan_take _ (by rfl) _ (by rfl) ?_ ?_
   rotate_left
   · rintro _ ⟨x, rfl⟩
     go_simp
     try with_reducible rfl
   try simp only [pu]
  obtain ⟨c0, c1⟩ := cells2 qA
  obtain ⟨f0, f1⟩ := frees2 qA
  have HA := kq4 TA BA qA ltA
  clear TA BA qA ltA
  refine pD fun K hK => ?_
  go_simp
  have qB := st2_heap HA.out.2.2.1 (.int .u64 k0) (.int .u64 k1)
  have BB := st2_below HA.out.2.1 (HA.out.2.2.2) (.int .u64 k0) (.int .u64 k1)
  have TB : TreeF ((W.setCell ⟨b6, 0, none⟩ (.int .u64 k0)).setCell ⟨b6, 1, none⟩ (.int .u64 k1)) px ps ty kv kind td root := HG.out.2.2.1.below BB
  have ltB := HA.out.2.2.2
  clear c0 c1 f0 f1 HA
  generalize ((W.setCell ⟨b6, 0, none⟩ (.int .u64 k0)).setCell ⟨b6, 1, none⟩ (.int .u64 k1)) = W7 at *
  try go_simp
  refine hK.out _ _ (HI.out _ TB) ?_
  clear hK K
  try simp only [pu]
  refine pD fun K hK => ?_
  go_simp
  try go_simp
  refine hK.out _ _ (HI.out _ TB) ?_
  clear hK K
  try simp only [pu]
  refine plan_nil ?_
  have H7 := kq4 TB BB qB ltB
  clear TB BB qB ltB
  clear w1
 all_goals
  go_wp2_with fail
  go_ret2
  exact ⟨rfl, H7.out.2.1⟩
theorem treeF_get_yes {w : World} {px ps kind td root : Nat} {ty : TypeId} {kv : Value} (hT : TreeF w px ps ty kv kind td root) (k : List UInt8) (k0 k1 : Nat) (t : List UInt8) (e1 : Nat) (hg : ∀ W, Below w.heap.size w W → Calls Tryz.prog 80 #[PV ps, .int .u64 k1] W fun e w' => e = .returned (.tuple #[SV t, .int .i64 e1]) ∧ Below W.heap.size W w') {fm : FuncId} (hme : ∀ (f : Nat) (v : Value) (w : World), (method (f + 1) ty v "loft/backend.find").run Tryz.prog w = .ok (fm, v) w) (hen : ∀ (args : Array Value) (w : World), (callFunc fm args).run Tryz.prog w = .ok (.enter fm args) w) (hs : ∀ W, Below w.heap.size w W → Calls Tryz.prog fm #[kv, .int .u64 root, SV k] W fun e w' => e = .returned (.tuple #[.agg #[.int .u64 k0, .int .u64 k1], .bool true]) ∧ Below W.heap.size W w') :
 Calls Tryz.prog 50 #[PV px, SV k] w fun e w' => e = .returned (.tuple #[SV t, .bool true]) ∧ Below w.heap.size w w' := by
 have B0 := Below.refl w.heap.size w
 have hn := treeF_none (hT.below B0)
 obtain ⟨I, hIi, hIo⟩ := treeF_class px ps ty kv kind td root
 have hy0 := fun x : Keeps I => hIi _ x.ok
 simp only [TreeF] at hy0
 obtain ⟨m0, m1, m2, m3, m4⟩ := cellsX5 hy0
 have hI0 : I w.drew := hIo _ (hT.below B0.drew)
 have hIo' := True.intro
 have HI := Lib.hid hIo
 have HG := kq4 hn hs hT B0
 have HU := Lib.hid hg
 clear hn hs hT hIi hIo hy0 B0 hg
 go_enter Tryz.func50, Tryz.ntmps50
 go_wp2_with fail
 refine HG.out.1.mono ?_
 rintro e w1 ⟨rfl, rfl⟩
 go_wp2_with fail
 refine wp_region_plan I (.take 0 (.take 1 (.take 2 (.take 3 (.take 4 (.take 5 (.take 6 (.take 7 (.take 8 (.take 9 (.take 10 (.two 11 15 (.take 12 (.take 13 (.take 14 (.go 15 (.go 16 (.go 17 .nil)))))) (.go 11 (.take 12 (.take 13 (.take 14 (.go 16 (.go 17 .nil)))))))))))))))))) (by kernel_rfl) (by kernel_rfl) hI0 ?_
 iterate 11
  refine' plan_take _ (by rfl) _ (by rfl) ?_ ?_
  rotate_left
  · rintro _ ⟨x, rfl⟩
    have hxm0 := m0 x
    have hxm1 := m1 x
    have hxm2 := m2 x
    have hxm3 := m3 x
    have hxm4 := m4 x
    go_simp
    try with_reducible rfl
  try simp only [pu]
 refine plan_two ?h1 ?h2
 case' h1 =>
  refine pD fun K hK => ?_
  go_simp
  refine (HG.out.2.1 _ HG.out.2.2.2.drew).mono ?_
  rintro e w2 ⟨rfl, hb2⟩
  have T2 := TreeF.below (w := w.drew) (HG.out.2.2.1.below HG.out.2.2.2.drew) hb2
  have B2' := HG.out.2.2.2.drew.trans (hb2.mono HG.out.2.2.2.drew.size)
  have B2 := kq2 T2 B2'
  clear T2 hb2 B2' 
  try go_simp
  refine hK.out _ _ (HI.out _ B2.out.1) ?_
  clear hK K
  try simp only [pu]
  iterate 3
   refine' plan_take _ (by rfl) _ (by rfl) ?_ ?_
   rotate_left
   · rintro _ ⟨x, rfl⟩
     go_simp
     try with_reducible rfl
   try simp only [pu]
  refine pD fun K hK => ?_
  go_simp
  have A2 := (Below.refl w2.heap.size w2).alloc (Nat.le_refl _) (.cells #[.int .u64 0, .int .u64 0] 137)
  have TA := B2.out.1.below A2
  have BA := B2.out.2.trans (A2.mono B2.out.2.size)
  have qA := heap_alloc_new w2 (.cells #[.int .u64 0, .int .u64 0] 137)
  have ltA : w.heap.size ≤ w2.heap.size := B2.out.2.size
  clear A2 B2
  generalize w2.alloc (.cells #[.int .u64 0, .int .u64 0] 137) = W at *
  generalize w2.heap.size = b6 at *
  try go_simp
  refine hK.out _ _ (HI.out _ TA) ?_
  clear hK K
  try simp only [pu]
  obtain ⟨c0, c1⟩ := cells2 qA
  obtain ⟨f0, f1⟩ := frees2 qA
  have HA := kq4 TA BA qA ltA
  clear TA BA qA ltA
  refine pD fun K hK => ?_
  go_simp
  have qB := st2_heap HA.out.2.2.1 (.int .u64 k0) (.int .u64 k1)
  have BB := st2_below HA.out.2.1 (HA.out.2.2.2) (.int .u64 k0) (.int .u64 k1)
  have TB : TreeF ((W.setCell ⟨b6, 0, none⟩ (.int .u64 k0)).setCell ⟨b6, 1, none⟩ (.int .u64 k1)) px ps ty kv kind td root := HG.out.2.2.1.below BB
  have ltB := HA.out.2.2.2
  clear c0 c1 f0 f1 HA
  generalize ((W.setCell ⟨b6, 0, none⟩ (.int .u64 k0)).setCell ⟨b6, 1, none⟩ (.int .u64 k1)) = W7 at *
  try go_simp
  refine hK.out _ _ (HI.out _ TB) ?_
  clear hK K
  try simp only [pu]
  refine pD fun K hK => ?_
  go_simp
  try go_simp
  refine hK.out _ _ (HI.out _ TB) ?_
  clear hK K
  try simp only [pu]
  refine plan_nil ?_
  have H7 := kq4 TB BB qB ltB
  clear TB BB qB ltB
  clear w2
 case' h2 =>
  refine pD fun K hK => ?_
  go_simp
  have A2 := (Below.refl w.heap.size w).alloc (Nat.le_refl _) (.cells #[.int .u64 0, .int .u64 0] 137)
  have BA := (HG.out.2.2.2.trans (A2.mono HG.out.2.2.2.size)).drew
  have qA : (w.alloc (.cells #[.int .u64 0, .int .u64 0] 137)).drew.heap[w.heap.size]? = _ := heap_alloc_new w (.cells #[.int .u64 0, .int .u64 0] 137)
  have TA := HG.out.2.2.1.below BA
  clear A2
  generalize (w.alloc (.cells #[.int .u64 0, .int .u64 0] 137)).drew = w1 at *
  try go_simp
  refine hK.out _ _ (HI.out _ TA) ?_
  clear hK K
  try simp only [pu]
  have HA0 := kq3 TA BA qA
  clear TA BA qA
  refine pD fun K hK => ?_
  go_simp
  refine (HG.out.2.1 _ HA0.out.2.1).mono ?_
  rintro e W ⟨rfl, hb2⟩
  have TA := HA0.out.1.below hb2
  have BA := HA0.out.2.1.trans (hb2.mono HA0.out.2.1.size)
  have qA := (hb2.block w.heap.size (gl HA0.out.2.2)).trans HA0.out.2.2
  obtain ⟨b6, hb6⟩ : ∃ b6, w.heap.size = b6 := ⟨_, rfl⟩
  have ltA : w.heap.size ≤ b6 := by omega
  rw [hb6] at qA
  simp only [hb6]
  clear hb2 HA0
  try go_simp
  refine hK.out _ _ (HI.out _ TA) ?_
  clear hK K
  try simp only [pu]
  iterate 3
   refine' plan_take _ (by rfl) _ (by rfl) ?_ ?_
   rotate_left
   · rintro _ ⟨x, rfl⟩
     go_simp
     try with_reducible rfl
   try simp only [pu]
  obtain ⟨c0, c1⟩ := cells2 qA
  obtain ⟨f0, f1⟩ := frees2 qA
  have HA := kq4 TA BA qA ltA
  clear TA BA qA ltA
  refine pD fun K hK => ?_
  go_simp
  have qB := st2_heap HA.out.2.2.1 (.int .u64 k0) (.int .u64 k1)
  have BB := st2_below HA.out.2.1 (HA.out.2.2.2) (.int .u64 k0) (.int .u64 k1)
  have TB : TreeF ((W.setCell ⟨b6, 0, none⟩ (.int .u64 k0)).setCell ⟨b6, 1, none⟩ (.int .u64 k1)) px ps ty kv kind td root := HG.out.2.2.1.below BB
  have ltB := HA.out.2.2.2
  clear c0 c1 f0 f1 HA
  generalize ((W.setCell ⟨b6, 0, none⟩ (.int .u64 k0)).setCell ⟨b6, 1, none⟩ (.int .u64 k1)) = W7 at *
  try go_simp
  refine hK.out _ _ (HI.out _ TB) ?_
  clear hK K
  try simp only [pu]
  refine pD fun K hK => ?_
  go_simp
  try go_simp
  refine hK.out _ _ (HI.out _ TB) ?_
  clear hK K
  try simp only [pu]
  refine plan_nil ?_
  have H7 := kq4 TB BB qB ltB
  clear TB BB qB ltB
  clear w1
 all_goals
  clear HI hI0 hIo' m0 m1 m2 m3 m4 I
  obtain ⟨I, hIi, hIo⟩ := two_class (fun w' => TreeF w' px ps ty kv kind td root) (fun w' => w'.heap[b6]? = some (.cells #[.int .u64 k0, .int .u64 k1] 137))
  have hy0 := fun x : Keeps I => (hIi _ x.ok).1
  have hz0 := fun x : Keeps I => (hIi _ x.ok).2
  simp only [TreeF] at hy0
  obtain ⟨m0, m1, m2, m3, m4⟩ := cellsX5 hy0
  obtain ⟨n0, n1⟩ := cellsX2 hz0
  have HI := Lib.hid hIo
  have hI0 : I W7.drew := hIo _ H7.out.1 H7.out.2.2.1
  clear hIi hIo hy0 hz0
  go_wp2_with fail
  refine wp_region_plan I (.take 0 (.take 1 (.take 2 (.take 3 (.take 4 (.take 5 (.go 6 (.take 7 (.take 8 (.take 9 (.go 10 (.go 11 .nil)))))))))))) (by kernel_rfl) (by kernel_rfl) hI0 ?_
  clear hI0
  iterate 6
   refine' plan_take _ (by rfl) _ (by rfl) ?_ ?_
   rotate_left
   · rintro _ ⟨x, rfl⟩
     have hxm0 := m0 x
     have hxn1 := n1 x
     go_simp
     try with_reducible rfl
   try simp only [pu]
  refine pD fun K hK => ?_
  go_simp
  refine (HU.out _ H7.out.2.1.drew).mono ?_
  rintro e w8 ⟨rfl, hb⟩
  have T2 := TreeF.below (w := W7.drew) (H7.out.1.below (Below.refl _ _).drew) hb
  have q2 := (hb.block b6 (gl H7.out.2.2.1)).trans H7.out.2.2.1
  have HX := kq3 T2 q2 (H7.out.2.1.drew.trans (hb.mono H7.out.2.1.drew.size))
  clear hb T2 q2
  try go_simp
  refine hK.out _ _ (HI.out _ HX.out.1 HX.out.2.1) ?_
  clear hK K
  try simp only [pu]
  iterate 3
   refine' plan_take _ (by rfl) _ (by rfl) ?_ ?_
   rotate_left
   · rintro _ ⟨x, rfl⟩
     go_simp
     try with_reducible rfl
   try simp only [pu]
  refine pD fun K hK => ?_
  go_simp
  try go_simp
  refine hK.out _ _ (HI.out _ HX.out.1 HX.out.2.1) ?_
  clear hK K
  try simp only [pu]
  refine pD fun K hK => ?_
  go_simp
  try go_simp
  refine hK.out _ _ (HI.out _ HX.out.1 HX.out.2.1) ?_
  clear hK K
  try simp only [pu]
  refine plan_nil ?_
  go_wp2_with fail
  go_ret2
  exact ⟨rfl, HX.out.2.2⟩
theorem treeF_at_ref {w : World} {px ps kind td root : Nat} {ty : TypeId} {kv : Value} (hT : TreeF w px ps ty kv kind td root) (k : Int) (k0 k1 : Nat) {fm : FuncId} (hme : ∀ (f : Nat) (v : Value) (w : World), (method (f + 1) ty v "loft/backend.at").run Tryz.prog w = .ok (fm, v) w) (hen : ∀ (args : Array Value) (w : World), (callFunc fm args).run Tryz.prog w = .ok (.enter fm args) w) (hs : ∀ W, Below w.heap.size w W → Calls Tryz.prog fm #[kv, .int .u64 root, .int .i64 k] W fun e w' => e = .returned (.tuple #[.agg #[.int .u64 k0, .int .u64 k1], .int .i64 2]) ∧ Below W.heap.size W w') :
 Calls Tryz.prog 53 #[PV px, .int .i64 k] w fun e w' => e = .returned (.tuple #[.agg #[.string ⟨#[]⟩, .string ⟨#[]⟩], .int .i64 2]) ∧ Below w.heap.size w w' := by
 have B0 := (Below.refl w.heap.size w).alloc (Nat.le_refl _) (.cells #[.string ⟨#[]⟩, .string ⟨#[]⟩] 34)
 have y0 := heap_alloc_new w (.cells #[.string ⟨#[]⟩, .string ⟨#[]⟩] 34)
 have hn := treeF_none (hT.below B0)
 obtain ⟨I, hIi, hIo⟩ := treeF_class px ps ty kv kind td root
 have hy0 := fun x : Keeps I => hIi _ x.ok
 simp only [TreeF] at hy0
 obtain ⟨m0, m1, m2, m3, m4⟩ := cellsX5 hy0
 have hI0 : I (w.alloc (.cells #[.string ⟨#[]⟩, .string ⟨#[]⟩] 34)).drew := hIo _ (hT.below B0.drew)
 have HI := Lib.hid hIo
 have HG := kq5 hn hs hT B0 y0
 clear hn hs hT hIi hIo hy0 B0 y0
 go_enter Tryz.func53, Tryz.ntmps53
 go_wp2_with fail
 refine HG.out.1.mono ?_
 rintro e w1 ⟨rfl, rfl⟩
 go_wp2_with fail
 refine wp_region_plan I (.take 0 (.take 1 (.take 2 (.take 3 (.take 4 (.take 5 (.take 6 (.take 7 (.take 8 (.take 9 (.take 10 (.two 11 15 (.take 12 (.take 13 (.take 14 (.go 15 (.go 16 (.go 17 .nil)))))) (.go 11 (.take 12 (.take 13 (.take 14 (.go 16 (.go 17 .nil)))))))))))))))))) (by kernel_rfl) (by kernel_rfl) hI0 ?_
 iterate 11
  refine' plan_take _ (by rfl) _ (by rfl) ?_ ?_
  rotate_left
  · rintro _ ⟨x, rfl⟩
    have hxm0 := m0 x
    have hxm1 := m1 x
    have hxm2 := m2 x
    have hxm3 := m3 x
    have hxm4 := m4 x
    go_simp
    try with_reducible rfl
  try simp only [pu]
 refine plan_two ?h1 ?h2
 case' h1 =>
  refine pD fun K hK => ?_
  go_simp
  refine (HG.out.2.1 _ HG.out.2.2.2.1.drew).mono ?_
  rintro e w2 ⟨rfl, hb2⟩
  have T2 := TreeF.below (w := (w.alloc (.cells #[.string ⟨#[]⟩, .string ⟨#[]⟩] 34)).drew) (HG.out.2.2.1.below HG.out.2.2.2.1.drew) hb2
  have y2 := (hb2.block w.heap.size (by show w.heap.size < (w.alloc _).heap.size; simp)).trans HG.out.2.2.2.2
  have B2' := HG.out.2.2.2.1.drew.trans (hb2.mono HG.out.2.2.2.1.drew.size)
  have B2 := kq3 T2 B2' y2
  clear T2 hb2 B2' y2
  try go_simp
  refine hK.out _ _ (HI.out _ B2.out.1) ?_
  clear hK K
  try simp only [pu]
  iterate 3
   refine' plan_take _ (by rfl) _ (by rfl) ?_ ?_
   rotate_left
   · rintro _ ⟨x, rfl⟩
     go_simp
     try with_reducible rfl
   try simp only [pu]
  refine pD fun K hK => ?_
  go_simp
  have A2 := (Below.refl w2.heap.size w2).alloc (Nat.le_refl _) (.cells #[.int .u64 0, .int .u64 0] 137)
  have TA := B2.out.1.below A2
  have BA := B2.out.2.1.trans (A2.mono B2.out.2.1.size)
  have yA := (A2.block w.heap.size (gl B2.out.2.2)).trans B2.out.2.2
  have qA := heap_alloc_new w2 (.cells #[.int .u64 0, .int .u64 0] 137)
  have ltA : w.heap.size < w2.heap.size := (gl B2.out.2.2)
  clear A2 B2
  generalize w2.alloc (.cells #[.int .u64 0, .int .u64 0] 137) = W at *
  generalize w2.heap.size = b6 at *
  try go_simp
  refine hK.out _ _ (HI.out _ TA) ?_
  clear hK K
  try simp only [pu]
  obtain ⟨c0, c1⟩ := cells2 qA
  obtain ⟨f0, f1⟩ := frees2 qA
  have HA := kq5 TA BA yA qA ltA
  clear TA BA yA qA ltA
  refine pD fun K hK => ?_
  go_simp
  have qB := st2_heap HA.out.2.2.2.1 (.int .u64 k0) (.int .u64 k1)
  have BB := st2_below HA.out.2.1 (Nat.le_of_lt HA.out.2.2.2.2) (.int .u64 k0) (.int .u64 k1)
  have yB := (st2_other (Nat.ne_of_lt HA.out.2.2.2.2) (.int .u64 k0) (.int .u64 k1)).trans HA.out.2.2.1
  have TB : TreeF ((W.setCell ⟨b6, 0, none⟩ (.int .u64 k0)).setCell ⟨b6, 1, none⟩ (.int .u64 k1)) px ps ty kv kind td root := HG.out.2.2.1.below BB
  have ltB := HA.out.2.2.2.2
  clear c0 c1 f0 f1 HA
  generalize ((W.setCell ⟨b6, 0, none⟩ (.int .u64 k0)).setCell ⟨b6, 1, none⟩ (.int .u64 k1)) = W7 at *
  try go_simp
  refine hK.out _ _ (HI.out _ TB) ?_
  clear hK K
  try simp only [pu]
  refine pD fun K hK => ?_
  go_simp
  try go_simp
  refine hK.out _ _ (HI.out _ TB) ?_
  clear hK K
  try simp only [pu]
  refine plan_nil ?_
  have H7 := kq5 TB BB yB qB ltB
  clear TB BB yB qB ltB
  clear w2
 case' h2 =>
  refine pD fun K hK => ?_
  go_simp
  have A2 := (Below.refl (w.alloc (.cells #[.string ⟨#[]⟩, .string ⟨#[]⟩] 34)).heap.size (w.alloc (.cells #[.string ⟨#[]⟩, .string ⟨#[]⟩] 34))).alloc (Nat.le_refl _) (.cells #[.int .u64 0, .int .u64 0] 137)
  have BA := (HG.out.2.2.2.1.trans (A2.mono HG.out.2.2.2.1.size)).drew
  have qA : ((w.alloc (.cells #[.string ⟨#[]⟩, .string ⟨#[]⟩] 34)).alloc (.cells #[.int .u64 0, .int .u64 0] 137)).drew.heap[(w.alloc (.cells #[.string ⟨#[]⟩, .string ⟨#[]⟩] 34)).heap.size]? = _ := heap_alloc_new (w.alloc (.cells #[.string ⟨#[]⟩, .string ⟨#[]⟩] 34)) (.cells #[.int .u64 0, .int .u64 0] 137)
  have yA : ((w.alloc (.cells #[.string ⟨#[]⟩, .string ⟨#[]⟩] 34)).alloc (.cells #[.int .u64 0, .int .u64 0] 137)).drew.heap[w.heap.size]? = _ := (A2.block w.heap.size (by simp)).trans HG.out.2.2.2.2
  simp only [World.size_alloc] at qA
  have TA := HG.out.2.2.1.below BA
  clear A2
  generalize ((w.alloc (.cells #[.string ⟨#[]⟩, .string ⟨#[]⟩] 34)).alloc (.cells #[.int .u64 0, .int .u64 0] 137)).drew = w1 at *
  try go_simp
  refine hK.out _ _ (HI.out _ TA) ?_
  clear hK K
  try simp only [pu]
  have HA0 := kq4 TA BA yA qA
  clear TA BA yA qA
  refine pD fun K hK => ?_
  go_simp
  refine (HG.out.2.1 _ HA0.out.2.1).mono ?_
  rintro e W ⟨rfl, hb2⟩
  have TA := HA0.out.1.below hb2
  have BA := HA0.out.2.1.trans (hb2.mono HA0.out.2.1.size)
  have yA := (hb2.block w.heap.size (gl HA0.out.2.2.1)).trans HA0.out.2.2.1
  have qA := (hb2.block (w.heap.size + 1) (gl HA0.out.2.2.2)).trans HA0.out.2.2.2
  have ltA : w.heap.size < w.heap.size + 1 := by omega
  clear hb2 HA0
  generalize w.heap.size + 1 = b6 at *
  try go_simp
  refine hK.out _ _ (HI.out _ TA) ?_
  clear hK K
  try simp only [pu]
  iterate 3
   refine' plan_take _ (by rfl) _ (by rfl) ?_ ?_
   rotate_left
   · rintro _ ⟨x, rfl⟩
     go_simp
     try with_reducible rfl
   try simp only [pu]
  obtain ⟨c0, c1⟩ := cells2 qA
  obtain ⟨f0, f1⟩ := frees2 qA
  have HA := kq5 TA BA yA qA ltA
  clear TA BA yA qA ltA
  refine pD fun K hK => ?_
  go_simp
  have qB := st2_heap HA.out.2.2.2.1 (.int .u64 k0) (.int .u64 k1)
  have BB := st2_below HA.out.2.1 (Nat.le_of_lt HA.out.2.2.2.2) (.int .u64 k0) (.int .u64 k1)
  have yB := (st2_other (Nat.ne_of_lt HA.out.2.2.2.2) (.int .u64 k0) (.int .u64 k1)).trans HA.out.2.2.1
  have TB : TreeF ((W.setCell ⟨b6, 0, none⟩ (.int .u64 k0)).setCell ⟨b6, 1, none⟩ (.int .u64 k1)) px ps ty kv kind td root := HG.out.2.2.1.below BB
  have ltB := HA.out.2.2.2.2
  clear c0 c1 f0 f1 HA
  generalize ((W.setCell ⟨b6, 0, none⟩ (.int .u64 k0)).setCell ⟨b6, 1, none⟩ (.int .u64 k1)) = W7 at *
  try go_simp
  refine hK.out _ _ (HI.out _ TB) ?_
  clear hK K
  try simp only [pu]
  refine pD fun K hK => ?_
  go_simp
  try go_simp
  refine hK.out _ _ (HI.out _ TB) ?_
  clear hK K
  try simp only [pu]
  refine plan_nil ?_
  have H7 := kq5 TB BB yB qB ltB
  clear TB BB yB qB ltB
  clear w1
 all_goals
  have y := H7.out.2.2.1
  obtain ⟨c0, c1⟩ := cells2 y
  obtain ⟨f0, f1⟩ := frees2 y
  have q5 := st2_heap y (.string ⟨#[]⟩) (.string ⟨#[]⟩)
  have B5 := st2_below H7.out.2.1 (Nat.le_refl _) (.string ⟨#[]⟩) (.string ⟨#[]⟩)
  have HB := kq2 q5 B5
  clear y q5 B5
  go_wp2_with fail
  obtain ⟨q5, B5⟩ := HB.out
  generalize ((W7.setCell ⟨w.heap.size, 0, none⟩ (.string ⟨#[]⟩)).setCell ⟨w.heap.size, 1, none⟩ (.string ⟨#[]⟩)) = wF at *
  obtain ⟨e0, e1⟩ := cells2 q5
  exact bodyPost_ret (v := .tuple #[.agg #[.string ⟨#[]⟩, .string ⟨#[]⟩], .int .i64 2]) (by simp [results, Tryz.f53, go_sem, e0, e1]) rfl ⟨rfl, B5⟩
end Go.Proofs.YtcibkdbpicledaaGreatDoor
namespace Go.Proofs.YtcibkdbpicledaaGreatDoor.Qx
open Go Go.RowKit Qw Qu
def Only (Q : Exit → Act → World → Prop) : Exit → Act → World → Prop
 | .normal, a, w => Q .normal a w
 | _, _, _ => False
theorem Only.imp {Q : Exit → Act → World → Prop} : ∀ (e : Exit) (a : Act) (w : World), Only Q e a w → Q e a w := fun e a w h => by
 cases e <;> first | exact h | exact (h : False).elim
theorem Only.shut {Q : Exit → Act → World → Prop} : ¬ LetsOut (Only Q) := fun ⟨_, _, h⟩ => h
theorem rowsIn_wide {n : Nat} {P : Program} {row : String} {args : Array Value} {w : World} {R : Value → World → Prop} (h : Rows P row args w R) : RowsIn Fence.wide n P row args w R :=
 fun c cs _ => let ⟨v, w', r, s⟩ := h c cs; ⟨v, w', r, stepsIn_wide.2 s⟩
section
variable {P : Program} {ops : Array Oper} {md : Region.Mode} {S : World → Prop} {Q : Exit → Act → World → Prop} {l n : Nat}
theorem wpIn_of_wp {o : Oper} {a : Act} {w : World} {K : Act → World → Prop} (hnd : ∀ c, o.op ≠ .defer c) (h : o.wp P a w K Q) : o.wpIn (Fence.wide.inRound l) n P a w K Q := by
 refine ⟨fun _ _ => trivial, ?_⟩
 rw [Oper.semAt_eq _ _ _ hnd]
 unfold Oper.wp at h
 generalize (execOp a.eval o).run P w = r at h ⊢
 cases r with
 | ok x w' =>
  cases x with
  | value v => exact h
  | skip => exact h
  | defer d => exact h
  | enter f args => exact ⟨fun hd => (by cases hd), (callsIn_wide.2 h : CallsIn Fence.wide (n - 1) P f args w' _)⟩
  | row row args => exact ⟨fun hd => (by cases hd), rowsIn_wide h⟩
  | _ => exact (h : False).elim
 | halt x w' =>
  cases x <;> first | exact h | exact (h : False).elim
theorem wpAnyIn_of_held (hnd : noDefer ops = true) (hl : ¬ LetsOut Q) : ∀ (fuel : Nat) (listed : Array Bool) (a : Act) (w : World), wpAnyH P md ops Q S fuel listed a w → wpAnyIn (Fence.wide.inRound l) n P md ops Q fuel listed a w
 | 0, _, _, _, h => h
 | fuel + 1, listed, a, w, h => by
  refine ⟨h.1, fun i hi => ?_⟩
  have h2 := h.2 i hi
  unfold wpOp at h2
  unfold wpOpIn
  split
  · rename_i ho
    simp only [ho] at h2
    exact wpAnyIn_of_held hnd hl fuel _ _ _ h2.2
  · rename_i o ho
    simp only [ho] at h2
    split
    · rename_i hw
      simp only [hw, if_true] at h2
      rcases h2 with h2 | h2
      · exact wpIn_of_wp (noDefer_at hnd ho) (Oper.wp_mono (fun a' w' h' => wpAnyIn_of_held hnd hl fuel _ _ _ h'.2) h2)
      · exact absurd h2.2 hl
    · rename_i hw
      simp only [hw] at h2
      exact ⟨fun _ _ => trivial, wpAnyIn_of_held hnd hl fuel _ _ _ h2.2⟩
end
end Qx
open Qw Qu Qx
theorem wpIn_region_plan {P : Program} {id r n : Nat} {Q : Exit → Act → World → Prop} {a : Act} {w : World} {l : List Oper} (I : World → Prop) (p : Plan) (hnd : noDefer l.toArray = true) (hm : P.follows .mixedOrders = true) (hB : lexPlanB .any l.toArray p = true)
 (hI : I w.drew) (h : wpPlan P l (Only Q) (InK I) p a w.drew) : (Code.region id l.toArray true).wpIn (Fence.wide.inRound r) n P Q a w := by
 simp only [lexPlanB, Bool.and_eq_true, decide_eq_true_eq] at hB
 obtain ⟨⟨hsel, hn⟩, hlex⟩ := hB
 have hS : InK I w.drew := ⟨⟨_, hI⟩, rfl⟩
 have := wpAnyH_plan (md := .any) (Q := Only Q) hsel (fun _ _ _ _ _ h => (h : False).elim) p _ a w.drew hlex hS h
 rw [hn] at this
 exact Code.wpIn_mono Only.imp (wpIn_region_any hm (wpAnyIn_of_held hnd Only.shut _ _ _ _ this))
theorem plan_end {P : Program} {l : List Oper} {Q : Exit → Act → World → Prop} {S : World → Prop} {a : Act} {w : World} (h : Q .normal a w) : wpPlan P l (Only Q) S .nil a w := h
