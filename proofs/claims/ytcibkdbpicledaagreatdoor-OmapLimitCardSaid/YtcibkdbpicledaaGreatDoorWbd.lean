import Derived.Test.YtcibkdbpicledaaGreatDoorWbc
set_option maxRecDepth 100000
set_option maxHeartbeats 6400000
namespace Go.Proofs.YtcibkdbpicledaaGreatDoor
open Go.RowKit Go.BigFrame Go.Maps Go.WideMaps Lf
theorem map_at_ok {w : World} {pm px ps limit : Nat} (hM : MapOn w pm px ps limit) (pl : FuncId) (hen : ∀ (args : Array Value) (w : World), (callFunc pl args).run Tryz.prog w = .ok (.enter pl args) w) (a : List UInt8) (k : Int) (s1 s2 : List UInt8)
 (hpl : ∀ W, Below w.heap.size w W → Calls Tryz.prog pl #[PV pm, SV a] W fun e w' => e = .returned (.int .i64 k) ∧ Below W.heap.size W w')
 (hat : ∀ W, Below w.heap.size w W → Calls Tryz.prog 53 #[PV px, .int .i64 k] W fun e w' => e = .returned (.tuple #[.agg #[SV s1, SV s2], .int .i64 0]) ∧ Below W.heap.size W w') :
 Calls Tryz.prog 51 #[PV pm, fnV pl, SV a] w fun e w' => e = .returned (.tuple #[.agg #[SV s1, SV s2], .int .i64 0]) ∧ Below w.heap.size w w' := by
 have B0 := (Below.refl w.heap.size w).alloc (Nat.le_refl _) (.cells #[.string ⟨#[]⟩, .string ⟨#[]⟩] 34)
 have y0 := heap_alloc_new w (.cells #[.string ⟨#[]⟩, .string ⟨#[]⟩] 34)
 have hn := map_none (hM.below B0)
 obtain ⟨I, hIi, hIo⟩ : ∃ I : World → Prop, (∀ w', I w' → MapOn w' pm px ps limit) ∧ (∀ w', MapOn w' pm px ps limit → I w') := ⟨fun w' => MapOn w' pm px ps limit, fun _ h => h, fun _ a => a⟩
 have hy0 := fun x : Keeps I => hIi _ x.ok
 simp only [MapOn] at hy0
 obtain ⟨m0, m1, m2⟩ := cellsX3 hy0
 have hI0 : I (w.alloc (.cells #[.string ⟨#[]⟩, .string ⟨#[]⟩] 34)).drew := hIo _ (hM.below B0.drew)
 have HI := Lib.hid hIo
 have HG := kq6 hn hpl hat hM B0 y0
 clear hn hpl hat hM hIi hIo hy0 B0 y0
 simp only [fnV]
 go_enter Tryz.func51, Tryz.ntmps51
 go_wp2_with fail
 refine HG.out.1.mono ?_
 rintro e w1 ⟨rfl, rfl⟩
 go_wp2_with fail
 refine wp_region_plan I (.take 0 (.take 1 (.take 2 (.take 3 (.take 4 (.take 5 (.take 6 (.two 7 12 (.two 8 12 (.take 9 (.take 10 (.take 11 (.go 12 (.go 13 (.go 14 .nil)))))) (.go 8 (.take 9 (.take 10 (.take 11 (.go 13 (.go 14 .nil))))))) (.go 7 (.go 8 (.take 9 (.take 10 (.take 11 (.go 13 (.go 14 .nil))))))))))))))) (by kernel_rfl) (by kernel_rfl) hI0 ?_
 iterate 7
  refine' plan_take _ (by rfl) _ (by rfl) ?_ ?_
  rotate_left
  · rintro _ ⟨x, rfl⟩
    have hxm0 := m0 x
    have hxm1 := m1 x
    have hxm2 := m2 x
    go_simp
    try with_reducible rfl
  try simp only [pu]
 refine plan_two ?h1 ?h2
 case' h1 =>
  refine pD fun K hK => ?_
  go_simp
  refine (HG.out.2.1 _ HG.out.2.2.2.2.1.drew).mono ?_
  rintro e w2 ⟨rfl, hb2⟩
  have Bw2 := HG.out.2.2.2.2.1.drew.trans (hb2.mono HG.out.2.2.2.2.1.drew.size)
  have yw2 := (hb2.block w.heap.size (gl HG.out.2.2.2.2.2)).trans HG.out.2.2.2.2.2
  have mw2 : MapOn w2 pm px ps limit := HG.out.2.2.2.1.below Bw2
  try go_simp
  refine hK.out _ _ (HI.out _ mw2) ?_
  clear hK K
  try simp only [pu]
  have Hw2 := kq2 Bw2 yw2
  clear yw2 Bw2 mw2 hb2
  refine plan_two ?h3 ?h4
  case' h3 =>
   refine pD fun K hK => ?_
   go_simp
   refine (HG.out.2.2.1 _ Hw2.out.1).mono ?_
   rintro e w3 ⟨rfl, hb3⟩
   have Bw3 := Hw2.out.1.trans (hb3.mono Hw2.out.1.size)
   have yw3 := (hb3.block w.heap.size (gl Hw2.out.2)).trans Hw2.out.2
   have mw3 : MapOn w3 pm px ps limit := HG.out.2.2.2.1.below Bw3
   clear hb3
   try go_simp
   refine hK.out _ _ (HI.out _ mw3) ?_
   clear hK K
   try simp only [pu]
   iterate 3
    refine' plan_take _ (by rfl) _ (by rfl) ?_ ?_
    rotate_left
    · rintro _ ⟨x, rfl⟩
      go_simp
      try with_reducible rfl
    try simp only [pu]
   refine pD fun K hK => ?_
   go_simp
   have A4 := (Below.refl w3.heap.size w3).alloc (Nat.le_refl _) (.cells #[.string ⟨#[]⟩, .string ⟨#[]⟩] 34)
   have mA := mw3.below A4
   have BA := Bw3.trans (A4.mono Bw3.size)
   have yA := (A4.block w.heap.size (gl yw3)).trans yw3
   have qA := heap_alloc_new w3 (.cells #[.string ⟨#[]⟩, .string ⟨#[]⟩] 34)
   have ltA : w.heap.size < w3.heap.size := (gl yw3)
   clear A4 mw3 Bw3 yw3 Hw2
   generalize w3.alloc (.cells #[.string ⟨#[]⟩, .string ⟨#[]⟩] 34) = W at *
   generalize w3.heap.size = b8 at *
   try go_simp
   refine hK.out _ _ (HI.out _ mA) ?_
   clear hK K
   try simp only [pu]
   obtain ⟨c0, c1⟩ := cells2 qA
   obtain ⟨f0, f1⟩ := frees2 qA
   have HA := kq5 mA BA yA qA ltA
   clear mA BA yA qA ltA
   refine pD fun K hK => ?_
   go_simp
   have qB := st2_heap HA.out.2.2.2.1 (SV s1) (SV s2)
   have BB := st2_below HA.out.2.1 (Nat.le_of_lt HA.out.2.2.2.2) (SV s1) (SV s2)
   have yB := (st2_other (Nat.ne_of_lt HA.out.2.2.2.2) (SV s1) (SV s2)).trans HA.out.2.2.1
   have mB : MapOn ((W.setCell ⟨b8, 0, none⟩ (SV s1)).setCell ⟨b8, 1, none⟩ (SV s2)) pm px ps limit := HG.out.2.2.2.1.below BB
   clear c0 c1 f0 f1 HA
   generalize ((W.setCell ⟨b8, 0, none⟩ (SV s1)).setCell ⟨b8, 1, none⟩ (SV s2)) = W7 at *
   try go_simp
   refine hK.out _ _ (HI.out _ mB) ?_
   clear hK K
   try simp only [pu]
   refine pD fun K hK => ?_
   go_simp
   try go_simp
   refine hK.out _ _ (HI.out _ mB) ?_
   clear hK K
   try simp only [pu]
   refine plan_nil ?_
   have H7 := kq3 BB yB qB
   clear BB yB qB mB
   clear w2 w3
  case' h4 =>
   refine pD fun K hK => ?_
   go_simp
   have A4 := (Below.refl w2.heap.size w2).alloc (Nat.le_refl _) (.cells #[.string ⟨#[]⟩, .string ⟨#[]⟩] 34)
   have BZ := Hw2.out.1.trans (A4.mono Hw2.out.1.size)
   have yZ := (A4.block w.heap.size (gl Hw2.out.2)).trans Hw2.out.2
   have qZ := heap_alloc_new w2 (.cells #[.string ⟨#[]⟩, .string ⟨#[]⟩] 34)
   have mZ : MapOn (w2.alloc (.cells #[.string ⟨#[]⟩, .string ⟨#[]⟩] 34)) pm px ps limit := HG.out.2.2.2.1.below BZ
   have ltA : w.heap.size < w2.heap.size := (gl Hw2.out.2)
   clear A4 Hw2
   generalize w2.alloc (.cells #[.string ⟨#[]⟩, .string ⟨#[]⟩] 34) = w4 at *
   generalize w2.heap.size = b8 at *
   try go_simp
   refine hK.out _ _ (HI.out _ mZ) ?_
   clear hK K
   try simp only [pu]
   have HZ := kq3 BZ yZ qZ
   clear BZ yZ qZ mZ
   refine pD fun K hK => ?_
   go_simp
   refine (HG.out.2.2.1 _ HZ.out.1).mono ?_
   rintro e W ⟨rfl, hb3⟩
   have BW := HZ.out.1.trans (hb3.mono HZ.out.1.size)
   have yW := (hb3.block w.heap.size (gl HZ.out.2.1)).trans HZ.out.2.1
   have qW := (hb3.block _ (gl HZ.out.2.2)).trans HZ.out.2.2
   have mW : MapOn W pm px ps limit := HG.out.2.2.2.1.below BW
   clear hb3
   try go_simp
   refine hK.out _ _ (HI.out _ mW) ?_
   clear hK K
   try simp only [pu]
   have mA := mW
   have BA := BW
   have yA := yW
   have qA := qW
   clear mW BW yW qW HZ
   iterate 3
    refine' plan_take _ (by rfl) _ (by rfl) ?_ ?_
    rotate_left
    · rintro _ ⟨x, rfl⟩
      go_simp
      try with_reducible rfl
    try simp only [pu]
   obtain ⟨c0, c1⟩ := cells2 qA
   obtain ⟨f0, f1⟩ := frees2 qA
   have HA := kq5 mA BA yA qA ltA
   clear mA BA yA qA ltA
   refine pD fun K hK => ?_
   go_simp
   have qB := st2_heap HA.out.2.2.2.1 (SV s1) (SV s2)
   have BB := st2_below HA.out.2.1 (Nat.le_of_lt HA.out.2.2.2.2) (SV s1) (SV s2)
   have yB := (st2_other (Nat.ne_of_lt HA.out.2.2.2.2) (SV s1) (SV s2)).trans HA.out.2.2.1
   have mB : MapOn ((W.setCell ⟨b8, 0, none⟩ (SV s1)).setCell ⟨b8, 1, none⟩ (SV s2)) pm px ps limit := HG.out.2.2.2.1.below BB
   clear c0 c1 f0 f1 HA
   generalize ((W.setCell ⟨b8, 0, none⟩ (SV s1)).setCell ⟨b8, 1, none⟩ (SV s2)) = W7 at *
   try go_simp
   refine hK.out _ _ (HI.out _ mB) ?_
   clear hK K
   try simp only [pu]
   refine pD fun K hK => ?_
   go_simp
   try go_simp
   refine hK.out _ _ (HI.out _ mB) ?_
   clear hK K
   try simp only [pu]
   refine plan_nil ?_
   have H7 := kq3 BB yB qB
   clear BB yB qB mB
   clear w2 w4
 case' h2 =>
  refine pD fun K hK => ?_
  go_simp
  have A2 := ((Below.refl (w.alloc (.cells #[.string ⟨#[]⟩, .string ⟨#[]⟩] 34)).heap.size (w.alloc (.cells #[.string ⟨#[]⟩, .string ⟨#[]⟩] 34))).alloc (Nat.le_refl _) (.cells #[.string ⟨#[]⟩, .string ⟨#[]⟩] 34)).drew
  have BZ := HG.out.2.2.2.2.1.trans (A2.mono HG.out.2.2.2.2.1.size)
  have qZ : ((w.alloc (.cells #[.string ⟨#[]⟩, .string ⟨#[]⟩] 34)).alloc (.cells #[.string ⟨#[]⟩, .string ⟨#[]⟩] 34)).drew.heap[(w.alloc (.cells #[.string ⟨#[]⟩, .string ⟨#[]⟩] 34)).heap.size]? = _ := heap_alloc_new (w.alloc (.cells #[.string ⟨#[]⟩, .string ⟨#[]⟩] 34)) (.cells #[.string ⟨#[]⟩, .string ⟨#[]⟩] 34)
  have yZ : ((w.alloc (.cells #[.string ⟨#[]⟩, .string ⟨#[]⟩] 34)).alloc (.cells #[.string ⟨#[]⟩, .string ⟨#[]⟩] 34)).drew.heap[w.heap.size]? = _ := (A2.block w.heap.size (by simp)).trans HG.out.2.2.2.2.2
  have mZ : MapOn ((w.alloc (.cells #[.string ⟨#[]⟩, .string ⟨#[]⟩] 34)).alloc (.cells #[.string ⟨#[]⟩, .string ⟨#[]⟩] 34)).drew pm px ps limit := HG.out.2.2.2.1.below BZ
  simp only [World.size_alloc] at qZ
  clear A2
  generalize ((w.alloc (.cells #[.string ⟨#[]⟩, .string ⟨#[]⟩] 34)).alloc (.cells #[.string ⟨#[]⟩, .string ⟨#[]⟩] 34)).drew = w4 at *
  try go_simp
  refine hK.out _ _ (HI.out _ mZ) ?_
  clear hK K
  try simp only [pu]
  have HZ := kq3 BZ yZ qZ
  clear BZ yZ qZ mZ
  refine pD fun K hK => ?_
  go_simp
  refine (HG.out.2.1 _ HZ.out.1).mono ?_
  rintro e w5 ⟨rfl, hb2⟩
  have B5 := HZ.out.1.trans (hb2.mono HZ.out.1.size)
  have y5 := (hb2.block w.heap.size (gl HZ.out.2.1)).trans HZ.out.2.1
  have q5 := (hb2.block _ (gl HZ.out.2.2)).trans HZ.out.2.2
  have m5 : MapOn w5 pm px ps limit := HG.out.2.2.2.1.below B5
  clear hb2 HZ
  try go_simp
  refine hK.out _ _ (HI.out _ m5) ?_
  clear hK K
  try simp only [pu]
  have HZ := kq3 B5 y5 q5
  clear B5 y5 q5 m5
  refine pD fun K hK => ?_
  go_simp
  refine (HG.out.2.2.1 _ HZ.out.1).mono ?_
  rintro e W ⟨rfl, hb3⟩
  have BW := HZ.out.1.trans (hb3.mono HZ.out.1.size)
  have yW := (hb3.block w.heap.size (gl HZ.out.2.1)).trans HZ.out.2.1
  have qW := (hb3.block _ (gl HZ.out.2.2)).trans HZ.out.2.2
  have mW : MapOn W pm px ps limit := HG.out.2.2.2.1.below BW
  clear hb3
  try go_simp
  refine hK.out _ _ (HI.out _ mW) ?_
  clear hK K
  try simp only [pu]
  have mA := mW
  have BA := BW
  have yA := yW
  have qA := qW
  have ltA : w.heap.size < w.heap.size + 1 := by omega
  clear mW BW yW qW HZ
  generalize w.heap.size + 1 = b8 at *
  iterate 3
   refine' plan_take _ (by rfl) _ (by rfl) ?_ ?_
   rotate_left
   · rintro _ ⟨x, rfl⟩
     go_simp
     try with_reducible rfl
   try simp only [pu]
  obtain ⟨c0, c1⟩ := cells2 qA
  obtain ⟨f0, f1⟩ := frees2 qA
  have HA := kq5 mA BA yA qA ltA
  clear mA BA yA qA ltA
  refine pD fun K hK => ?_
  go_simp
  have qB := st2_heap HA.out.2.2.2.1 (SV s1) (SV s2)
  have BB := st2_below HA.out.2.1 (Nat.le_of_lt HA.out.2.2.2.2) (SV s1) (SV s2)
  have yB := (st2_other (Nat.ne_of_lt HA.out.2.2.2.2) (SV s1) (SV s2)).trans HA.out.2.2.1
  have mB : MapOn ((W.setCell ⟨b8, 0, none⟩ (SV s1)).setCell ⟨b8, 1, none⟩ (SV s2)) pm px ps limit := HG.out.2.2.2.1.below BB
  clear c0 c1 f0 f1 HA
  generalize ((W.setCell ⟨b8, 0, none⟩ (SV s1)).setCell ⟨b8, 1, none⟩ (SV s2)) = W7 at *
  try go_simp
  refine hK.out _ _ (HI.out _ mB) ?_
  clear hK K
  try simp only [pu]
  refine pD fun K hK => ?_
  go_simp
  try go_simp
  refine hK.out _ _ (HI.out _ mB) ?_
  clear hK K
  try simp only [pu]
  refine plan_nil ?_
  have H7 := kq3 BB yB qB
  clear BB yB qB mB
  clear w4 w5
 all_goals
  clear HI hI0 m0 m1 m2 I
  have y := H7.out.2.1
  have q := H7.out.2.2
  obtain ⟨c0, c1⟩ := cells2 y
  obtain ⟨f0, f1⟩ := frees2 y
  obtain ⟨d0, d1⟩ := cells2 q
  have q5 := st2_heap y (SV s1) (SV s2)
  have B5 := st2_below H7.out.1 (Nat.le_refl _) (SV s1) (SV s2)
  have HB := kq2 q5 B5
  clear y q q5 B5
  go_wp2_with fail
  obtain ⟨q5, B5⟩ := HB.out
  generalize ((W7.setCell ⟨w.heap.size, 0, none⟩ ((SV s1))).setCell ⟨w.heap.size, 1, none⟩ ((SV s2))) = wF at *
  obtain ⟨e0, e1⟩ := cells2 q5
  exact bodyPost_ret (v := .tuple #[.agg #[(SV s1), (SV s2)], .int .i64 0]) (by simp [results, Tryz.f51, go_sem, e0, e1]) rfl ⟨rfl, B5⟩
theorem map_at_ref {w : World} {pm px ps limit : Nat} (hM : MapOn w pm px ps limit) (pl : FuncId) (hen : ∀ (args : Array Value) (w : World), (callFunc pl args).run Tryz.prog w = .ok (.enter pl args) w) (a : List UInt8) (k : Int) (s1 s2 : List UInt8)
 (hpl : ∀ W, Below w.heap.size w W → Calls Tryz.prog pl #[PV pm, SV a] W fun e w' => e = .returned (.int .i64 k) ∧ Below W.heap.size W w')
 (hat : ∀ W, Below w.heap.size w W → Calls Tryz.prog 53 #[PV px, .int .i64 k] W fun e w' => e = .returned (.tuple #[.agg #[SV s1, SV s2], .int .i64 2]) ∧ Below W.heap.size W w') :
 Calls Tryz.prog 51 #[PV pm, fnV pl, SV a] w fun e w' => e = .returned (.tuple #[.agg #[.string ⟨#[]⟩, .string ⟨#[]⟩], .int .i64 5]) ∧ Below w.heap.size w w' := by
 have B0 := (Below.refl w.heap.size w).alloc (Nat.le_refl _) (.cells #[.string ⟨#[]⟩, .string ⟨#[]⟩] 34)
 have y0 := heap_alloc_new w (.cells #[.string ⟨#[]⟩, .string ⟨#[]⟩] 34)
 have hn := map_none (hM.below B0)
 obtain ⟨I, hIi, hIo⟩ : ∃ I : World → Prop, (∀ w', I w' → MapOn w' pm px ps limit) ∧ (∀ w', MapOn w' pm px ps limit → I w') := ⟨fun w' => MapOn w' pm px ps limit, fun _ h => h, fun _ a => a⟩
 have hy0 := fun x : Keeps I => hIi _ x.ok
 simp only [MapOn] at hy0
 obtain ⟨m0, m1, m2⟩ := cellsX3 hy0
 have hI0 : I (w.alloc (.cells #[.string ⟨#[]⟩, .string ⟨#[]⟩] 34)).drew := hIo _ (hM.below B0.drew)
 have HI := Lib.hid hIo
 have HG := kq6 hn hpl hat hM B0 y0
 clear hn hpl hat hM hIi hIo hy0 B0 y0
 simp only [fnV]
 go_enter Tryz.func51, Tryz.ntmps51
 go_wp2_with fail
 refine HG.out.1.mono ?_
 rintro e w1 ⟨rfl, rfl⟩
 go_wp2_with fail
 refine wp_region_plan I (.take 0 (.take 1 (.take 2 (.take 3 (.take 4 (.take 5 (.take 6 (.two 7 12 (.two 8 12 (.take 9 (.take 10 (.take 11 (.go 12 (.go 13 (.go 14 .nil)))))) (.go 8 (.take 9 (.take 10 (.take 11 (.go 13 (.go 14 .nil))))))) (.go 7 (.go 8 (.take 9 (.take 10 (.take 11 (.go 13 (.go 14 .nil))))))))))))))) (by kernel_rfl) (by kernel_rfl) hI0 ?_
 iterate 7
  refine' plan_take _ (by rfl) _ (by rfl) ?_ ?_
  rotate_left
  · rintro _ ⟨x, rfl⟩
    have hxm0 := m0 x
    have hxm1 := m1 x
    have hxm2 := m2 x
    go_simp
    try with_reducible rfl
  try simp only [pu]
 refine plan_two ?h1 ?h2
 case' h1 =>
  refine pD fun K hK => ?_
  go_simp
  refine (HG.out.2.1 _ HG.out.2.2.2.2.1.drew).mono ?_
  rintro e w2 ⟨rfl, hb2⟩
  have Bw2 := HG.out.2.2.2.2.1.drew.trans (hb2.mono HG.out.2.2.2.2.1.drew.size)
  have yw2 := (hb2.block w.heap.size (gl HG.out.2.2.2.2.2)).trans HG.out.2.2.2.2.2
  have mw2 : MapOn w2 pm px ps limit := HG.out.2.2.2.1.below Bw2
  try go_simp
  refine hK.out _ _ (HI.out _ mw2) ?_
  clear hK K
  try simp only [pu]
  have Hw2 := kq2 Bw2 yw2
  clear yw2 Bw2 mw2 hb2
  refine plan_two ?h3 ?h4
  case' h3 =>
   refine pD fun K hK => ?_
   go_simp
   refine (HG.out.2.2.1 _ Hw2.out.1).mono ?_
   rintro e w3 ⟨rfl, hb3⟩
   have Bw3 := Hw2.out.1.trans (hb3.mono Hw2.out.1.size)
   have yw3 := (hb3.block w.heap.size (gl Hw2.out.2)).trans Hw2.out.2
   have mw3 : MapOn w3 pm px ps limit := HG.out.2.2.2.1.below Bw3
   clear hb3
   try go_simp
   refine hK.out _ _ (HI.out _ mw3) ?_
   clear hK K
   try simp only [pu]
   iterate 3
    refine' plan_take _ (by rfl) _ (by rfl) ?_ ?_
    rotate_left
    · rintro _ ⟨x, rfl⟩
      go_simp
      try with_reducible rfl
    try simp only [pu]
   refine pD fun K hK => ?_
   go_simp
   have A4 := (Below.refl w3.heap.size w3).alloc (Nat.le_refl _) (.cells #[.string ⟨#[]⟩, .string ⟨#[]⟩] 34)
   have mA := mw3.below A4
   have BA := Bw3.trans (A4.mono Bw3.size)
   have yA := (A4.block w.heap.size (gl yw3)).trans yw3
   have qA := heap_alloc_new w3 (.cells #[.string ⟨#[]⟩, .string ⟨#[]⟩] 34)
   have ltA : w.heap.size < w3.heap.size := (gl yw3)
   clear A4 mw3 Bw3 yw3 Hw2
   generalize w3.alloc (.cells #[.string ⟨#[]⟩, .string ⟨#[]⟩] 34) = W at *
   generalize w3.heap.size = b8 at *
   try go_simp
   refine hK.out _ _ (HI.out _ mA) ?_
   clear hK K
   try simp only [pu]
   obtain ⟨c0, c1⟩ := cells2 qA
   obtain ⟨f0, f1⟩ := frees2 qA
   have HA := kq5 mA BA yA qA ltA
   clear mA BA yA qA ltA
   refine pD fun K hK => ?_
   go_simp
   have qB := st2_heap HA.out.2.2.2.1 (SV s1) (SV s2)
   have BB := st2_below HA.out.2.1 (Nat.le_of_lt HA.out.2.2.2.2) (SV s1) (SV s2)
   have yB := (st2_other (Nat.ne_of_lt HA.out.2.2.2.2) (SV s1) (SV s2)).trans HA.out.2.2.1
   have mB : MapOn ((W.setCell ⟨b8, 0, none⟩ (SV s1)).setCell ⟨b8, 1, none⟩ (SV s2)) pm px ps limit := HG.out.2.2.2.1.below BB
   clear c0 c1 f0 f1 HA
   generalize ((W.setCell ⟨b8, 0, none⟩ (SV s1)).setCell ⟨b8, 1, none⟩ (SV s2)) = W7 at *
   try go_simp
   refine hK.out _ _ (HI.out _ mB) ?_
   clear hK K
   try simp only [pu]
   refine pD fun K hK => ?_
   go_simp
   try go_simp
   refine hK.out _ _ (HI.out _ mB) ?_
   clear hK K
   try simp only [pu]
   refine plan_nil ?_
   have H7 := kq3 BB yB qB
   clear BB yB qB mB
   clear w2 w3
  case' h4 =>
   refine pD fun K hK => ?_
   go_simp
   have A4 := (Below.refl w2.heap.size w2).alloc (Nat.le_refl _) (.cells #[.string ⟨#[]⟩, .string ⟨#[]⟩] 34)
   have BZ := Hw2.out.1.trans (A4.mono Hw2.out.1.size)
   have yZ := (A4.block w.heap.size (gl Hw2.out.2)).trans Hw2.out.2
   have qZ := heap_alloc_new w2 (.cells #[.string ⟨#[]⟩, .string ⟨#[]⟩] 34)
   have mZ : MapOn (w2.alloc (.cells #[.string ⟨#[]⟩, .string ⟨#[]⟩] 34)) pm px ps limit := HG.out.2.2.2.1.below BZ
   have ltA : w.heap.size < w2.heap.size := (gl Hw2.out.2)
   clear A4 Hw2
   generalize w2.alloc (.cells #[.string ⟨#[]⟩, .string ⟨#[]⟩] 34) = w4 at *
   generalize w2.heap.size = b8 at *
   try go_simp
   refine hK.out _ _ (HI.out _ mZ) ?_
   clear hK K
   try simp only [pu]
   have HZ := kq3 BZ yZ qZ
   clear BZ yZ qZ mZ
   refine pD fun K hK => ?_
   go_simp
   refine (HG.out.2.2.1 _ HZ.out.1).mono ?_
   rintro e W ⟨rfl, hb3⟩
   have BW := HZ.out.1.trans (hb3.mono HZ.out.1.size)
   have yW := (hb3.block w.heap.size (gl HZ.out.2.1)).trans HZ.out.2.1
   have qW := (hb3.block _ (gl HZ.out.2.2)).trans HZ.out.2.2
   have mW : MapOn W pm px ps limit := HG.out.2.2.2.1.below BW
   clear hb3
   try go_simp
   refine hK.out _ _ (HI.out _ mW) ?_
   clear hK K
   try simp only [pu]
   have mA := mW
   have BA := BW
   have yA := yW
   have qA := qW
   clear mW BW yW qW HZ
   iterate 3
    refine' plan_take _ (by rfl) _ (by rfl) ?_ ?_
    rotate_left
    · rintro _ ⟨x, rfl⟩
      go_simp
      try with_reducible rfl
    try simp only [pu]
   obtain ⟨c0, c1⟩ := cells2 qA
   obtain ⟨f0, f1⟩ := frees2 qA
   have HA := kq5 mA BA yA qA ltA
   clear mA BA yA qA ltA
   refine pD fun K hK => ?_
   go_simp
   have qB := st2_heap HA.out.2.2.2.1 (SV s1) (SV s2)
   have BB := st2_below HA.out.2.1 (Nat.le_of_lt HA.out.2.2.2.2) (SV s1) (SV s2)
   have yB := (st2_other (Nat.ne_of_lt HA.out.2.2.2.2) (SV s1) (SV s2)).trans HA.out.2.2.1
   have mB : MapOn ((W.setCell ⟨b8, 0, none⟩ (SV s1)).setCell ⟨b8, 1, none⟩ (SV s2)) pm px ps limit := HG.out.2.2.2.1.below BB
   clear c0 c1 f0 f1 HA
   generalize ((W.setCell ⟨b8, 0, none⟩ (SV s1)).setCell ⟨b8, 1, none⟩ (SV s2)) = W7 at *
   try go_simp
   refine hK.out _ _ (HI.out _ mB) ?_
   clear hK K
   try simp only [pu]
   refine pD fun K hK => ?_
   go_simp
   try go_simp
   refine hK.out _ _ (HI.out _ mB) ?_
   clear hK K
   try simp only [pu]
   refine plan_nil ?_
   have H7 := kq3 BB yB qB
   clear BB yB qB mB
   clear w2 w4
 case' h2 =>
  refine pD fun K hK => ?_
  go_simp
  have A2 := ((Below.refl (w.alloc (.cells #[.string ⟨#[]⟩, .string ⟨#[]⟩] 34)).heap.size (w.alloc (.cells #[.string ⟨#[]⟩, .string ⟨#[]⟩] 34))).alloc (Nat.le_refl _) (.cells #[.string ⟨#[]⟩, .string ⟨#[]⟩] 34)).drew
  have BZ := HG.out.2.2.2.2.1.trans (A2.mono HG.out.2.2.2.2.1.size)
  have qZ : ((w.alloc (.cells #[.string ⟨#[]⟩, .string ⟨#[]⟩] 34)).alloc (.cells #[.string ⟨#[]⟩, .string ⟨#[]⟩] 34)).drew.heap[(w.alloc (.cells #[.string ⟨#[]⟩, .string ⟨#[]⟩] 34)).heap.size]? = _ := heap_alloc_new (w.alloc (.cells #[.string ⟨#[]⟩, .string ⟨#[]⟩] 34)) (.cells #[.string ⟨#[]⟩, .string ⟨#[]⟩] 34)
  have yZ : ((w.alloc (.cells #[.string ⟨#[]⟩, .string ⟨#[]⟩] 34)).alloc (.cells #[.string ⟨#[]⟩, .string ⟨#[]⟩] 34)).drew.heap[w.heap.size]? = _ := (A2.block w.heap.size (by simp)).trans HG.out.2.2.2.2.2
  have mZ : MapOn ((w.alloc (.cells #[.string ⟨#[]⟩, .string ⟨#[]⟩] 34)).alloc (.cells #[.string ⟨#[]⟩, .string ⟨#[]⟩] 34)).drew pm px ps limit := HG.out.2.2.2.1.below BZ
  simp only [World.size_alloc] at qZ
  clear A2
  generalize ((w.alloc (.cells #[.string ⟨#[]⟩, .string ⟨#[]⟩] 34)).alloc (.cells #[.string ⟨#[]⟩, .string ⟨#[]⟩] 34)).drew = w4 at *
  try go_simp
  refine hK.out _ _ (HI.out _ mZ) ?_
  clear hK K
  try simp only [pu]
  have HZ := kq3 BZ yZ qZ
  clear BZ yZ qZ mZ
  refine pD fun K hK => ?_
  go_simp
  refine (HG.out.2.1 _ HZ.out.1).mono ?_
  rintro e w5 ⟨rfl, hb2⟩
  have B5 := HZ.out.1.trans (hb2.mono HZ.out.1.size)
  have y5 := (hb2.block w.heap.size (gl HZ.out.2.1)).trans HZ.out.2.1
  have q5 := (hb2.block _ (gl HZ.out.2.2)).trans HZ.out.2.2
  have m5 : MapOn w5 pm px ps limit := HG.out.2.2.2.1.below B5
  clear hb2 HZ
  try go_simp
  refine hK.out _ _ (HI.out _ m5) ?_
  clear hK K
  try simp only [pu]
  have HZ := kq3 B5 y5 q5
  clear B5 y5 q5 m5
  refine pD fun K hK => ?_
  go_simp
  refine (HG.out.2.2.1 _ HZ.out.1).mono ?_
  rintro e W ⟨rfl, hb3⟩
  have BW := HZ.out.1.trans (hb3.mono HZ.out.1.size)
  have yW := (hb3.block w.heap.size (gl HZ.out.2.1)).trans HZ.out.2.1
  have qW := (hb3.block _ (gl HZ.out.2.2)).trans HZ.out.2.2
  have mW : MapOn W pm px ps limit := HG.out.2.2.2.1.below BW
  clear hb3
  try go_simp
  refine hK.out _ _ (HI.out _ mW) ?_
  clear hK K
  try simp only [pu]
  have mA := mW
  have BA := BW
  have yA := yW
  have qA := qW
  have ltA : w.heap.size < w.heap.size + 1 := by omega
  clear mW BW yW qW HZ
  generalize w.heap.size + 1 = b8 at *
  iterate 3
   refine' plan_take _ (by rfl) _ (by rfl) ?_ ?_
   rotate_left
   · rintro _ ⟨x, rfl⟩
     go_simp
     try with_reducible rfl
   try simp only [pu]
  obtain ⟨c0, c1⟩ := cells2 qA
  obtain ⟨f0, f1⟩ := frees2 qA
  have HA := kq5 mA BA yA qA ltA
  clear mA BA yA qA ltA
  refine pD fun K hK => ?_
  go_simp
  have qB := st2_heap HA.out.2.2.2.1 (SV s1) (SV s2)
  have BB := st2_below HA.out.2.1 (Nat.le_of_lt HA.out.2.2.2.2) (SV s1) (SV s2)
  have yB := (st2_other (Nat.ne_of_lt HA.out.2.2.2.2) (SV s1) (SV s2)).trans HA.out.2.2.1
  have mB : MapOn ((W.setCell ⟨b8, 0, none⟩ (SV s1)).setCell ⟨b8, 1, none⟩ (SV s2)) pm px ps limit := HG.out.2.2.2.1.below BB
  clear c0 c1 f0 f1 HA
  generalize ((W.setCell ⟨b8, 0, none⟩ (SV s1)).setCell ⟨b8, 1, none⟩ (SV s2)) = W7 at *
  try go_simp
  refine hK.out _ _ (HI.out _ mB) ?_
  clear hK K
  try simp only [pu]
  refine pD fun K hK => ?_
  go_simp
  try go_simp
  refine hK.out _ _ (HI.out _ mB) ?_
  clear hK K
  try simp only [pu]
  refine plan_nil ?_
  have H7 := kq3 BB yB qB
  clear BB yB qB mB
  clear w4 w5
 all_goals
  clear HI hI0 m0 m1 m2 I
  have y := H7.out.2.1
  have q := H7.out.2.2
  obtain ⟨c0, c1⟩ := cells2 y
  obtain ⟨f0, f1⟩ := frees2 y
  obtain ⟨d0, d1⟩ := cells2 q
  have q5 := st2_heap y (.string ⟨#[]⟩) (.string ⟨#[]⟩)
  have B5 := st2_below H7.out.1 (Nat.le_refl _) (.string ⟨#[]⟩) (.string ⟨#[]⟩)
  have HB := kq2 q5 B5
  clear y q q5 B5
  go_wp2_with fail
  obtain ⟨q5, B5⟩ := HB.out
  generalize ((W7.setCell ⟨w.heap.size, 0, none⟩ ((.string ⟨#[]⟩))).setCell ⟨w.heap.size, 1, none⟩ ((.string ⟨#[]⟩))) = wF at *
  obtain ⟨e0, e1⟩ := cells2 q5
  exact bodyPost_ret (v := .tuple #[.agg #[(.string ⟨#[]⟩), (.string ⟨#[]⟩)], .int .i64 5]) (by simp [results, Tryz.f51, go_sem, e0, e1]) rfl ⟨rfl, B5⟩
end Go.Proofs.YtcibkdbpicledaaGreatDoor
namespace Go.Proofs.YtcibkdbpicledaaGreatDoor
open Go.RowKit Go.BigFrame Go.Maps Go.WideMaps Lf Tr
structure TreeK where
 On : World → Nat → Nat → Nat → Prop
 Hold : St → (Nat → Nat) → Nat → List (List UInt8 × List UInt8) → List Nat → Prop
structure TreeRd (K : TreeK) : Prop where
 onBelow : ∀ {w w' : World} {px ps root : Nat}, K.On w px ps root → Below w.heap.size w w' → K.On w' px ps root
 onKeep : ∀ {w w' : World} {px ps root : Nat} {Y : Nat → Prop}, K.On w px ps root → Keep Y w w' → Y px → K.On w' px ps root
 onLt : ∀ {w : World} {px ps root : Nat}, K.On w px ps root → px < w.heap.size
 fit : ∀ {S : St} {o : Nat → Nat} {root : Nat} {L : List (List UInt8 × List UInt8)} {R : List Nat}, K.Hold S o root L R → Fit S o
 has : ∀ {S : St} {o : Nat → Nat} {root : Nat} {L : List (List UInt8 × List UInt8)} {R : List Nat}, K.Hold S o root L R → ∀ y ∈ R, reco S y ≠ none
 frame : ∀ {S S' : St} {o o' : Nat → Nat} {root : Nat} {L : List (List UInt8 × List UInt8)} {R : List Nat}, K.Hold S o root L R → Fit S' o' → (∀ y ∈ R, reco S' y = reco S y) → K.Hold S' o' root L R
 sorted : ∀ {S : St} {o : Nat → Nat} {root : Nat} {L : List (List UInt8 × List UInt8)} {R : List Nat}, K.Hold S o root L R → L.Pairwise fun p q => cmpB p.1 q.1 < 0
 len : ∀ {w : World} {px ps root : Nat} {S : St} {o : Nat → Nat} {Y : Nat → Prop} {L : List (List UInt8 × List UInt8)} {R : List Nat}, StOn w ps S Y → K.Hold S o root L R → L.length < 98 → K.On w px ps root →
  Calls Tryz.prog 56 #[PV px] w fun e w' => e = .returned (.int .i64 (L.length : Nat)) ∧ Below w.heap.size w w'
 rank : ∀ {w : World} {px ps root : Nat} {S : St} {o : Nat → Nat} {Y : Nat → Prop} {L : List (List UInt8 × List UInt8)} {R : List Nat}, StOn w ps S Y → K.Hold S o root L R → L.length < 98 → K.On w px ps root → ∀ k : List UInt8,
  Calls Tryz.prog 49 #[PV px, SV k] w fun e w' => e = .returned (.int .i64 (cntL L k : Nat)) ∧ Below w.heap.size w w'
 get : ∀ {w : World} {px ps root : Nat} {S : St} {o : Nat → Nat} {Y : Nat → Prop} {L : List (List UInt8 × List UInt8)} {R : List Nat}, StOn w ps S Y → K.Hold S o root L R → L.length < 98 → K.On w px ps root → ∀ k : List UInt8,
  Calls Tryz.prog 50 #[PV px, SV k] w fun e w' => e = .returned (.tuple #[SV ((Bt.getL L k).getD []), .bool (Bt.getL L k).isSome]) ∧ Below w.heap.size w w'
 at' : ∀ {w : World} {px ps root : Nat} {S : St} {o : Nat → Nat} {Y : Nat → Prop} {L : List (List UInt8 × List UInt8)} {R : List Nat}, StOn w ps S Y → K.Hold S o root L R → L.length < 98 → K.On w px ps root → ∀ (k : Nat) (p : List UInt8 × List UInt8), L[k]? = some p →
  Calls Tryz.prog 53 #[PV px, .int .i64 k] w fun e w' => e = .returned (.tuple #[prV p, .int .i64 0]) ∧ Below w.heap.size w w'
 atRef : ∀ {w : World} {px ps root : Nat} {S : St} {o : Nat → Nat} {Y : Nat → Prop} {L : List (List UInt8 × List UInt8)} {R : List Nat}, StOn w ps S Y → K.Hold S o root L R → L.length < 98 → K.On w px ps root → ∀ k : Int, k < 4611686018427387904 → (k < 0 ∨ (L.length : Int) ≤ k) →
  Calls Tryz.prog 53 #[PV px, .int .i64 k] w fun e w' => e = .returned (.tuple #[prV ([], []), .int .i64 2]) ∧ Below w.heap.size w w'
structure TreeOkP (K : TreeK) (P : List (List UInt8 × List UInt8) → Prop) : Prop extends TreeRd K where
 put : ∀ {w : World} {px ps root : Nat} {S : St} {o : Nat → Nat} {Y : Nat → Prop} {L : List (List UInt8 × List UInt8)} {R : List Nat}, StOn w ps S Y → K.Hold S o root L R → L.length < 98 → K.On w px ps root → Y px → P L → ∀ a b : List UInt8, a.length ≤ 1000 → b.length ≤ 1000 → Space S 20 9 →
  Calls Tryz.prog 58 #[PV px, prV (a, b)] w fun e w' => ∃ (x : Nat) (S3 : St), e = .returned (.tuple #[SV ((Bt.getL L a).getD []), .bool (Bt.getL L a).isSome, .int .i64 0]) ∧ StOn w' ps S3 Y ∧ Keep (fun k => Y k ∧ k ≠ px) w w' ∧ K.On w' px ps x ∧ PutL S L R K.Hold a b 20 9 x S3
def manyK (t : Nat) : TreeK := ⟨fun w px ps root => ManyOn w px ps t root, fun S o root L R => Bt.Holds S o t root L R⟩
theorem its_pairs {l : List It} (h : l.Pairwise klt) : (pairs l).Pairwise fun p q => cmpB p.1 q.1 < 0 := by
 unfold pairs
 exact List.pairwise_map.2 (h.imp fun {a b} q => q)
theorem many_rd (t : Nat) : TreeRd (manyK t) where
 onBelow h hb := TreeF.below h hb
 onKeep h hk hy := TreeF.keep h hk hy
 onLt h := (gl h)
 fit h := Bt.Holds.fit h
 has h := Bt.Holds.has h
 frame h := Bt.Holds.frame h
 sorted h := by
  rcases h with ⟨_, _, rfl, _⟩ | ⟨_, _, h, _, rfl, _⟩
  · exact List.Pairwise.nil
  · exact its_pairs h.sorted
 len h hH _ hT := many_tree_len h hH hT
 rank h hH _ hT k := many_tree_rank h hH hT k
 get h hH _ hT k := many_tree_get h hH hT k
 at' h hH _ hT k p hk := many_tree_at h hH hT k hk
 atRef h hH _ hT k _ hk := many_tree_at_ref h hH hT k hk
theorem many_ok0 (t : Nat) : TreeOkP (manyK t) fun L => L = [] :=
 { many_rd t with put := fun h hH _ hT hpx hL a b ha hb hr => many_tree_put0 h hH hL hT hpx a b ha hb hr }
def binK (kind : Nat) (Ok : Tr → Prop) : TreeK := ⟨fun w px ps root => TreeF w px ps 185 (binV ps kind) kind 0 root, fun S o root L R => ∃ t : Tr, Bin Ok S o t ∧ root = t.root ∧ L = pairs t.its ∧ R = allH t.its⟩
theorem At.item {S : St} : ∀ {t : Tr}, Tr.At S t → ∀ d ∈ t.its, ∃ n0 : Nd, reco S d.h = some (ndWords n0) ∧ n0.key = d.kh ∧ n0.val = d.vh
 | .nil, _, d, hd => by cases hd
 | .node l e m r, ha, d, hd => by
  obtain ⟨h1, h2, h3⟩ := ha
  rcases List.mem_append.1 (show d ∈ l.its ++ e :: r.its from hd) with hd | hd
  · exact At.item h2 d hd
  · rcases List.mem_cons.1 hd with rfl | hd
    · exact ⟨_, h1, rfl, rfl⟩
    · exact At.item h3 d hd
theorem bin_found {Ok : Tr → Prop} {S : St} {o : Nat → Nat} {t : Tr} (h : Bin Ok S o t) (hc : t.its.length < 98) (key : List UInt8) : ∃ hh, downM S key (Lf.limit S) t.root 0 = some (hh, cntL (pairs t.its) key) ∧ ((hh = 0 ∧ Bt.getL (pairs t.its) key = none) ∨ ∃ d : It, hh = d.h ∧ d.h ≠ 0 ∧ d.h < 18446744073709551616 ∧ Bt.getL (pairs t.its) key = some d.v ∧ textM S (getNode S d.h).1.val = some d.v) := by
 obtain ⟨hh, e, q⟩ := h.down (by omega) key
 rw [← cntL_pairs] at e
 refine ⟨hh, e, ?_⟩
 rw [Bt.getL_pairs]
 rcases q with ⟨rfl, q⟩ | ⟨d, hd, hk, rfl⟩
 · rw [Bt.findB_none q]
   exact Or.inl ⟨rfl, rfl⟩
 · obtain ⟨n0, e1, e2, e3⟩ := At.item h.at' d hd
   have hf : Bt.findB key t.its = some d := by
    cases hf : Bt.findB key t.its with
    | none =>
     unfold Bt.findB at hf
     have := List.find?_eq_none.1 hf d hd
     rw [hk] at this
     simp at this
    | some d' =>
     unfold Bt.findB at hf
     have hm := List.mem_of_find?_eq_some hf
     have hk' : d'.k = key := by simpa using List.find?_some hf
     have hp := h.sorted
     rw [List.pairwise_iff_getElem] at hp
     obtain ⟨i, hi, rfl⟩ := List.mem_iff_getElem.1 hd
     obtain ⟨j, hj, rfl⟩ := List.mem_iff_getElem.1 hm
     have hne : ∀ i j (hi : i < t.its.length) (hj : j < t.its.length), i < j → t.its[i].k ≠ t.its[j].k := fun i j hi hj hij q => by
      have := hp i j hi hj hij
      unfold klt at this
      rw [q, cmpB_refl] at this
      omega
     rcases Nat.lt_trichotomy i j with q | q | q
     · exact absurd (hk.trans hk'.symm) (hne i j hi hj q)
     · subst q; rfl
     · exact absurd (hk'.trans hk.symm) (hne j i hj hi q)
   have ho := look_ok h.fit e1
   have hb := h.blobs d hd
   rw [hf]
   refine Or.inr ⟨d, rfl, by omega, ho.2.1, rfl, ?_⟩
   rw [getNode_look h.fit e1, e3]
   exact At.blob h.fit hb.lv hb.v
theorem cntL_le (L : List (List UInt8 × List UInt8)) (a : List UInt8) : cntL L a ≤ L.length := List.countP_le_length
theorem enterB_size (args : Array Value) (w : World) : (callFunc 291 args).run Tryz.prog w = .ok (.enter 291 args) w := by kernel_rfl
theorem enterB_rank (args : Array Value) (w : World) : (callFunc 289 args).run Tryz.prog w = .ok (.enter 289 args) w := by kernel_rfl
theorem enterB_at (args : Array Value) (w : World) : (callFunc 286 args).run Tryz.prog w = .ok (.enter 286 args) w := by kernel_rfl
theorem enterB_find (args : Array Value) (w : World) : (callFunc 287 args).run Tryz.prog w = .ok (.enter 287 args) w := by kernel_rfl
theorem enterB_insert (args : Array Value) (w : World) : (callFunc 288 args).run Tryz.prog w = .ok (.enter 288 args) w := by kernel_rfl
theorem bin_rd (kind : Nat) (Ok : Tr → Prop) : TreeRd (binK kind Ok) where
 onBelow h hb := TreeF.below h hb
 onKeep h hk hy := TreeF.keep h hk hy
 onLt h := (gl h)
 fit h := by obtain ⟨t, h, _⟩ := h; exact h.fit
 has h := by obtain ⟨t, h, _, _, rfl⟩ := h; exact h.some
 frame h hf hs := by obtain ⟨t, h, h1, h2, rfl⟩ := h; exact ⟨t, h.frame hf hs, h1, h2, rfl⟩
 sorted h := by obtain ⟨t, h, _, rfl, _⟩ := h; exact its_pairs h.sorted
 len h hH hc hT := by
  obtain ⟨t, hb, rfl, rfl, rfl⟩ := hH
  rw [pairs_length] at hc ⊢
  exact treeF_len hT meth_size enterB_size fun _ hW => bin_size (h.below hW) hb.fit.inv kind _ (hb.at'.root_lt hb.fit) (hb.at'.size hb.fit (by omega))
 rank h hH hc hT k := by
  obtain ⟨t, hb, rfl, rfl, rfl⟩ := hH
  rw [pairs_length] at hc
  obtain ⟨hh, e, _⟩ := bin_found hb hc k
  exact treeF_rank hT k meth_rank enterB_rank fun _ hW => bin_rank (h.below hW) hb.fit.inv kind _ (hb.at'.root_lt hb.fit) k (by unfold rankM; rw [e]; rfl)
 get {w px ps root S o Y L R} h hH hc hT k := by
  obtain ⟨t, hb, rfl, rfl, rfl⟩ := hH
  rw [pairs_length] at hc
  have hl := hb.at'.root_lt hb.fit
  obtain ⟨hh, e, ⟨rfl, q⟩ | ⟨d, rfl, q1, q2, q, q3⟩⟩ := bin_found hb hc k
  · rw [q]
    refine treeF_get_nil hT k 0 0 meth_find enterB_find fun W hW => ?_
    have := bin_find (h.below hW) hb.fit.inv kind t.root hl k e (by simp)
    simpa [itV, getNode_zero, Nd.zero] using this
  · rw [q]
    obtain ⟨b1, b2⟩ := textM_some q3
    refine treeF_get_yes hT k (getNode S d.h).1.key (getNode S d.h).1.val d.v (getBlob S (getNode S d.h).1.val).2 (fun W hW => ?_) meth_find enterB_find fun W hW => ?_
    · have := blob_get (h.below hW) hb.fit.inv _ (getNode_lt h d.h).val b1
      rwa [b2] at this
    · have := bin_find (h.below hW) hb.fit.inv kind t.root hl k e q2
      simpa [itV, q1] using this
 at' h hH hc hT k p hp := by
  obtain ⟨t, hb, rfl, rfl, rfl⟩ := hH
  rw [pairs_length] at hc
  obtain ⟨hkl, hke⟩ := List.getElem?_eq_some_iff.1 hp
  rw [pairs_length] at hkl
  have hpl := hb.place (by omega) hkl
  have hq : (pairs t.its)[k]? = some (t.its[k].k, t.its[k].v) := by unfold pairs; rw [List.getElem?_map, List.getElem?_eq_getElem hkl]; rfl
  have : p = (t.its[k].k, t.its[k].v) := Option.some.inj (hp.symm.trans hq)
  rw [← this] at hpl
  have hl := hb.at'.root_lt hb.fit
  obtain ⟨hh, hhl, h1, h2, h3⟩ := treeAtM_some hpl
  obtain ⟨b1, b2⟩ := textM_some h2
  obtain ⟨b3, b4⟩ := textM_some h3
  have hnl := getNode_lt h hh
  exact treeF_at hT (k : Int) p _ _ _ _ meth_at enterB_at (fun W hW => bin_at (h.below hW) hb.fit.inv kind t.root hl k (by omega) h1 hhl)
   (fun W hW => by have := blob_get (h.below hW) hb.fit.inv _ hnl.key b1; rwa [b2] at this) (fun W hW => by have := blob_get (h.below hW) hb.fit.inv _ hnl.val b3; rwa [b4] at this)
 atRef {w px ps root S o Y L R} h hH hc hT k hk2 hk := by
  obtain ⟨t, hb, rfl, rfl, rfl⟩ := hH
  rw [pairs_length] at hc hk
  have hl := hb.at'.root_lt hb.fit
  by_cases h0 : k < 0
  · refine treeF_at_ref hT k 0 0 meth_at enterB_at fun W hW => ?_
    have := bin_at_neg (h.below hW) hb.fit.inv kind t.root k h0
    simpa [itV, getNode_zero, Nd.zero] using this
  · obtain ⟨n, rfl⟩ : ∃ n : Nat, k = n := ⟨k.toNat, by omega⟩
    exact treeF_at_ref hT (n : Int) (getNode S 0).1.key (getNode S 0).1.val meth_at enterB_at fun W hW => bin_at (h.below hW) hb.fit.inv kind t.root hl n (by omega) (hb.over (by omega) (by omega)) (by decide)
theorem bin_ok {kind : Nat} {j c : FuncId} {jn : Jn} {Ok : Tr → Prop} (hk : KindOk kind j c jn) (J : JSpec jn Ok) {P : List (List UInt8 × List UInt8) → Prop} : TreeOkP (binK kind Ok) P where
 toTreeRd := bin_rd kind Ok
 put {w px ps root S o Y L R} h hH hc hT hpx _ a b ha hb' hr := by
  obtain ⟨t, hb, rfl, rfl, rfl⟩ := hH
  rw [pairs_length] at hc
  have hr7 := hr.mono (p' := 7) (q' := 3) (by omega) (by omega)
  have hl := hb.at'.root_lt hb.fit
  cases hf : Bt.findB a t.its with
  | none =>
   have hg0 : Bt.getL (pairs t.its) a = none := by rw [Bt.getL_pairs, hf]; rfl
   have hno : ∀ z ∈ t.its, z.k ≠ a := fun z hz q => by
    unfold Bt.findB at hf
    have := List.find?_eq_none.1 hf z hz
    rw [q] at this
    simp at this
   rw [hg0]
   obtain ⟨u, S', o', po, hput, hB, hpr, _, hg, hap, hsub⟩ := put_new J hb hc ha hb' hr7 hno
   unfold treePutM at hput
   split at hput
   · cases hput
   rename_i p S1 hit
   have hPL : PutL S (pairs t.its) (allH t.its) (binK kind Ok).Hold a b 20 9 u.root S' := ⟨⟨o', allH u.its, ⟨u, hB, rfl, hpr.symm, rfl⟩, hsub⟩, hg.mono (by omega) (by omega), hap⟩
   refine treeF_put h hb.fit.inv hT hpx a b po.1 hit false [] (R := fun x ik iv S2 => x = u.root ∧ ik = 0 ∧ iv = 0 ∧ S2 = S') (R2 := fun x S2 => PutL S (pairs t.its) (allH t.its) (binK kind Ok).Hold a b 20 9 x S2) meth_insert enterB_insert (fun W Z hW hp1 hp2 => ?_) fun x ik iv S2 hR W Z hW _ _ => ?_
   · refine (bin_insert hW (po.2 _ _ hit) hk t.root p.1 p.2 hl hp1 hp2 hput).mono ?_
     rintro e w' ⟨rfl, h1, h2, _, _⟩
     exact ⟨_, _, _, S', rfl, h1, h2, rfl, rfl, rfl, rfl⟩
   · obtain ⟨rfl, rfl, rfl, rfl⟩ := hR
     refine (tree_gone0 px 0 0 W).mono ?_
     rintro e w' ⟨rfl, hb⟩
     exact ⟨_, rfl, hW.below hb, hW.keep hb, hPL⟩
  | some d =>
   have hg0 : Bt.getL (pairs t.its) a = some d.v := by rw [Bt.getL_pairs, hf]; rfl
   rw [hg0]
   have hd : d ∈ t.its := by unfold Bt.findB at hf; exact List.mem_of_find?_eq_some hf
   have hdk : d.k = a := by unfold Bt.findB at hf; simpa using List.find?_some hf
   have hlt := Bt.blobs_lt hb.fit (hb.blobs d hd)
   obtain ⟨u, S6, S8, o', po, hput, f6, b6, i6, e8, hB, hpr, _, hg, hap, hsub⟩ := put_was J hb hc ha hb' hr7 hd hdk
   unfold treeRepM at hput
   split at hput
   · cases hput
   rename_i p S1 hit
   have hPL : PutL S (pairs t.its) (allH t.its) (binK kind Ok).Hold a b 20 9 u.root S8 := ⟨⟨o', allH u.its, ⟨u, hB, rfl, hpr.symm, rfl⟩, hsub⟩, hg.mono (by omega) (by omega), hap⟩
   refine treeF_put h hb.fit.inv hT hpx a b po.1 hit true d.v (R := fun x ik iv S2 => x = u.root ∧ ik = d.kh ∧ iv = d.vh ∧ S2 = S6) (R2 := fun x S2 => PutL S (pairs t.its) (allH t.its) (binK kind Ok).Hold a b 20 9 x S2) meth_insert enterB_insert (fun W Z hW hp1 hp2 => ?_) fun x ik iv S2 hR W Z hW hTW hZ => ?_
   · refine (bin_insert_was hW (po.2 _ _ hit) hk t.root p.1 p.2 hl hp1 hp2 hput f6.inv).mono ?_
     rintro e w' ⟨rfl, h1, h2, _, _⟩
     exact ⟨_, _, _, S6, rfl, h1, h2, rfl, rfl, rfl, rfl⟩
   · obtain ⟨rfl, rfl, rfl, rfl⟩ := hR
     refine (treeF_gone hW f6.inv hTW hZ d.kh d.vh hlt.1 hlt.2 (by rw [b6]; simp) i6).mono ?_
     rintro e w' ⟨rfl, h1, h2⟩
     rw [b6]
     rw [← e8] at h1
     exact ⟨S8, rfl, h1, h2, hPL⟩
theorem insert_nil {jn jn' : Jn} {S : St} {m : Nat} (h : ∀ S, jn S 0 m 0 = jn' S 0 m 0) : insertOkM jn S 0 m = insertOkM jn' S 0 m := by
 have e1 : ∀ (jn : Jn) key, splitM jn key 200 S 0 = some ((0, 0, 0), S) := fun _ _ => rfl
 unfold insertOkM cjoinM
 rw [e1, e1]
 simp only [h]
theorem treePut_nil {jn jn' : Jn} (h : ∀ S m, jn S 0 m 0 = jn' S 0 m 0) (S : St) (a b : List UInt8) : treePutM jn S 0 a b = treePutM jn' S 0 a b := by
 unfold treePutM binInsM
 simp only [insert_nil (jn := jn) (jn' := jn') fun S => h S _]
theorem avl_nil (S : St) (m : Nat) : avlOkM S 0 m 0 = avlJ S 0 m 0 := by
 have h : ∀ n, joinM n m 100 S 0 0 = joinB n m 100 S 0 0 := fun n => by
  show joinM n m (99 + 1) S 0 0 = joinB n m (99 + 1) S 0 0
  rw [joinM_succ]
  unfold joinB
  cases heightM S 0 with
  | none => rfl
  | some a =>
   simp only
   rw [if_neg (by omega), if_neg (by omega), if_neg (by omega), if_neg (by omega)]
 unfold avlOkM avlJ
 rw [h]
theorem bin_ok0 {kind : Nat} {j c : FuncId} {jn0 jn : Jn} {Ok : Tr → Prop} (hk : KindOk kind j c jn0) (J : JSpec jn Ok) (hn : ∀ S m, jn0 S 0 m 0 = jn S 0 m 0) : TreeOkP (binK kind Ok) fun L => L = [] where
 toTreeRd := bin_rd kind Ok
 put {w px ps root S o Y L R} h hH hc hT hpx hL a b ha hb' hr := by
  obtain ⟨t, hb, rfl, rfl, rfl⟩ := hH
  rw [pairs_length] at hc
  have hr7 := hr.mono (p' := 7) (q' := 3) (by omega) (by omega)
  have hl := hb.at'.root_lt hb.fit
  have hz : t.its = [] := by
   have := congrArg List.length hL
   rw [pairs_length] at this
   exact List.length_eq_zero_iff.1 this
  have ht : t = .nil := by
   cases t with
   | nil => rfl
   | node l d m r =>
    have : l.its ++ d :: r.its = [] := hz
    simp at this
  have hr0 : t.root = 0 := by rw [ht]; rfl
  have hg0 : Bt.getL (pairs t.its) a = none := by rw [hL]; rfl
  have hno : ∀ z ∈ t.its, z.k ≠ a := fun z hzm => by rw [hz] at hzm; cases hzm
  rw [hg0]
  obtain ⟨u, S', o', po, hput, hB, hpr, _, hg, hap, hsub⟩ := put_new J hb hc ha hb' hr7 hno
  rw [hr0, ← treePut_nil hn] at hput
  rw [hr0] at hl hT
  unfold treePutM at hput
  split at hput
  · cases hput
  rename_i p S1 hit
  have hPL : PutL S (pairs t.its) (allH t.its) (binK kind Ok).Hold a b 20 9 u.root S' := ⟨⟨o', allH u.its, ⟨u, hB, rfl, hpr.symm, rfl⟩, hsub⟩, hg.mono (by omega) (by omega), hap⟩
  refine treeF_put h hb.fit.inv hT hpx a b po.1 hit false [] (R := fun x ik iv S2 => x = u.root ∧ ik = 0 ∧ iv = 0 ∧ S2 = S') (R2 := fun x S2 => PutL S (pairs t.its) (allH t.its) (binK kind Ok).Hold a b 20 9 x S2) meth_insert enterB_insert (fun W Z hW hp1 hp2 => ?_) fun x ik iv S2 hR W Z hW _ _ => ?_
  · refine (bin_insert hW (po.2 _ _ hit) hk 0 p.1 p.2 hl hp1 hp2 hput).mono ?_
    rintro e w' ⟨rfl, h1, h2, _, _⟩
    exact ⟨_, _, _, S', rfl, h1, h2, rfl, rfl, rfl, rfl⟩
  · obtain ⟨rfl, rfl, rfl, rfl⟩ := hR
    refine (tree_gone0 px 0 0 W).mono ?_
    rintro e w' ⟨rfl, hb⟩
    exact ⟨_, rfl, hW.below hb, hW.keep hb, hPL⟩
end Go.Proofs.YtcibkdbpicledaaGreatDoor
namespace Go.Proofs.YtcibkdbpicledaaGreatDoor
open Go.RowKit Go.BigFrame Go.Maps Go.WideMaps Lf
theorem map_limit {w : World} {pm px ps limit : Nat} (hM : MapOn w pm px ps limit) :
 Calls Tryz.prog 26 #[PV pm] w fun e w' => e = .returned (.int .i64 limit) ∧ w = w' := by
 have HG := Lib.hid (map_none hM)
 unfold MapOn at hM
 obtain ⟨c0, c1, c2⟩ := cells3 hM
 clear hM
 go_enter Tryz.func26, Tryz.ntmps26
 go_wp2_with fail
 refine HG.out.mono ?_
 rintro e w1 ⟨rfl, rfl⟩
 go_wp2_with fail
 go_ret
 exact ⟨rfl, rfl⟩
theorem map_get_none {w : World} {pm px ps limit : Nat} (hM : MapOn w pm px ps limit) (a : List UInt8)
 (hg : Calls Tryz.prog 50 #[PV px, SV a] w fun e w' => e = .returned (.tuple #[.string ⟨#[]⟩, .bool false]) ∧ Below w.heap.size w w') :
 Calls Tryz.prog 15 #[PV pm, SV a] w fun e w' => e = .returned (.tuple #[.string ⟨#[]⟩, .int .i64 5]) ∧ Below w.heap.size w w' := by
 have HG := kq2 (map_none hM) hg
 unfold MapOn at hM
 obtain ⟨c0, c1, c2⟩ := cells3 hM
 clear hM hg
 go_enter Tryz.func15, Tryz.ntmps15
 go_wp2_with fail
 refine HG.out.1.mono ?_
 rintro e w1 ⟨rfl, rfl⟩
 go_wp2_with fail
 refine HG.out.2.mono ?_
 rintro e w2 ⟨rfl, hb⟩
 have HB := Lib.hid hb
 clear hb
 go_wp2_with fail
 go_ret2
 exact ⟨rfl, HB.out⟩
theorem map_get_some {w : World} {pm px ps limit : Nat} (hM : MapOn w pm px ps limit) (a t : List UInt8)
 (hg : Calls Tryz.prog 50 #[PV px, SV a] w fun e w' => e = .returned (.tuple #[SV t, .bool true]) ∧ Below w.heap.size w w') :
 Calls Tryz.prog 15 #[PV pm, SV a] w fun e w' => e = .returned (.tuple #[SV t, .int .i64 0]) ∧ Below w.heap.size w w' := by
 have HG := kq2 (map_none hM) hg
 unfold MapOn at hM
 obtain ⟨c0, c1, c2⟩ := cells3 hM
 clear hM hg
 go_enter Tryz.func15, Tryz.ntmps15
 go_wp2_with fail
 refine HG.out.1.mono ?_
 rintro e w1 ⟨rfl, rfl⟩
 go_wp2_with fail
 refine HG.out.2.mono ?_
 rintro e w2 ⟨rfl, hb⟩
 have HB := Lib.hid hb
 clear hb
 go_wp2_with fail
 go_ret2
 exact ⟨rfl, HB.out⟩
theorem mapH_len {w : World} {pm px ps limit : Nat} (hM : MapOn w pm px ps limit) {z : Nat} (ht : Calls Tryz.prog 56 #[PV px] w fun e w' => e = .returned (.int .i64 z) ∧ Below w.heap.size w w') :
 Calls Tryz.prog 22 #[PV pm] w fun e w' => e = .returned (.int .i64 z) ∧ Below w.heap.size w w' := by
 have HG := kq2 (map_none hM) ht
 unfold MapOn at hM
 obtain ⟨c0, c1, c2⟩ := cells3 hM
 clear hM ht
 go_enter Tryz.func22, Tryz.ntmps22
 go_wp2_with fail
 refine HG.out.1.mono ?_
 rintro e w1 ⟨rfl, rfl⟩
 go_wp2_with fail
 refine HG.out.2.mono ?_
 rintro e w2 ⟨rfl, hb⟩
 have HB := Lib.hid hb
 clear hb
 go_wp2_with fail
 go_ret
 exact ⟨rfl, HB.out⟩
theorem mapH_rank {w : World} {pm px ps limit : Nat} (hM : MapOn w pm px ps limit) (k : List UInt8) {z : Nat} (ht : Calls Tryz.prog 49 #[PV px, SV k] w fun e w' => e = .returned (.int .i64 z) ∧ Below w.heap.size w w') :
 Calls Tryz.prog 14 #[PV pm, SV k] w fun e w' => e = .returned (.int .i64 z) ∧ Below w.heap.size w w' := by
 have HG := kq2 (map_none hM) ht
 unfold MapOn at hM
 obtain ⟨c0, c1, c2⟩ := cells3 hM
 clear hM ht
 go_enter Tryz.func14, Tryz.ntmps14
 go_wp2_with fail
 refine HG.out.1.mono ?_
 rintro e w1 ⟨rfl, rfl⟩
 go_wp2_with fail
 refine HG.out.2.mono ?_
 rintro e w2 ⟨rfl, hb⟩
 have HB := Lib.hid hb
 clear hb
 go_wp2_with fail
 go_ret
 exact ⟨rfl, HB.out⟩
theorem mapH_select {w : World} {pm px ps limit : Nat} (hM : MapOn w pm px ps limit) (k : Int) (p : List UInt8 × List UInt8) (er : Nat) (ht : ∀ W, Below w.heap.size w W → Calls Tryz.prog 53 #[PV px, .int .i64 k] W fun e w' => e = .returned (.tuple #[prV p, .int .i64 er]) ∧ Below W.heap.size W w') :
 Calls Tryz.prog 18 #[PV pm, .int .i64 k] w fun e w' => e = .returned (.tuple #[prV p, .int .i64 er]) ∧ Below w.heap.size w w' := by
 have B0 := (Below.refl w.heap.size w).alloc (Nat.le_refl _) (.cells #[.string ⟨#[]⟩, .string ⟨#[]⟩] 34)
 have q0 := heap_alloc_new w (.cells #[.string ⟨#[]⟩, .string ⟨#[]⟩] 34)
 have hM0 := hM.below B0
 have hat := ht _ B0
 simp only [prV] at hat ⊢
 obtain ⟨p1, p2⟩ := p
 simp only at hat ⊢
 have HG := kq4 (map_none hM0) hat B0 q0
 unfold MapOn at hM0
 obtain ⟨c0, c1, c2⟩ := cells3 hM0
 clear hM hM0 ht hat B0 q0
 go_enter Tryz.func18, Tryz.ntmps18
 go_wp2_with fail
 refine HG.out.1.mono ?_
 rintro e w1 ⟨rfl, rfl⟩
 go_wp2_with fail
 refine HG.out.2.1.mono ?_
 rintro e w2 ⟨rfl, hb⟩
 have q2 := (hb.block w.heap.size (by simp)).trans HG.out.2.2.2
 obtain ⟨d0, d1⟩ := cells2 q2
 obtain ⟨f0, f1⟩ := frees2 q2
 have q3 := st2_heap q2 (SV p1) (SV p2)
 have B3 := st2_below (HG.out.2.2.1.trans (hb.mono HG.out.2.2.1.size)) (Nat.le_refl _) (SV p1) (SV p2)
 have HB := kq2 q3 B3
 clear hb q2 q3 B3
 go_wp2_with fail
 obtain ⟨q3, B3⟩ := HB.out
 generalize ((w2.setCell ⟨w.heap.size, 0, none⟩ (SV p1)).setCell ⟨w.heap.size, 1, none⟩ (SV p2)) = w3 at *
 obtain ⟨e0, e1⟩ := cells2 q3
 exact bodyPost_ret (v := .tuple #[.agg #[SV p1, SV p2], .int .i64 er]) (by simp [results, Tryz.f18, go_sem, e0, e1]) rfl ⟨rfl, B3⟩
theorem mapH_below {w : World} {pm px ps limit : Nat} (hM : MapOn w pm px ps limit) (a : List UInt8) {n : Nat} (hn : n < 4611686018427387904) (is : Bool) (v : List UInt8) (h1 : Calls Tryz.prog 49 #[PV px, SV a] w fun e w' => e = .returned (.int .i64 n) ∧ Below w.heap.size w w') (h2 : ∀ W, Below w.heap.size w W → Calls Tryz.prog 50 #[PV px, SV a] W fun e w' => e = .returned (.tuple #[SV v, .bool is]) ∧ Below W.heap.size W w') :
 Calls Tryz.prog 52 #[PV pm, SV a] w fun e w' => e = .returned (.int .i64 (if is = true then (n : Int) else (n : Int) - 1)) ∧ Below w.heap.size w w' := by
 have hw : IntKind.i64.wrap ((n : Int) - 1) = (n : Int) - 1 := IntWalk.i64_in _ (by omega)
 have HG := kq3 h1 h2 hM
 unfold MapOn at hM
 obtain ⟨c0, c1, c2⟩ := cells3 hM
 clear h1 h2 hM
 cases is
 all_goals
  go_enter Tryz.func52, Tryz.ntmps52
  go_wp2_with fail
  refine HG.out.1.mono ?_
  rintro e w1 ⟨rfl, hb1⟩
  have hM1 := HG.out.2.2.below hb1
  unfold MapOn at hM1
  obtain ⟨d0, d1, d2⟩ := cells3 hM1
  have H1 := Lib.hid hb1
  clear hb1 hM1
  go_wp2_with fail
  refine (HG.out.2.1 _ H1.out).mono ?_
  rintro e w2 ⟨rfl, hb2⟩
  have H2 := Lib.hid (H1.out.trans (hb2.mono H1.out.size))
  clear hb2
  go_wp2_with fail
  go_ret
  exact ⟨rfl, H2.out⟩
theorem mapH_floor {w : World} {pm px ps limit : Nat} (hM : MapOn w pm px ps limit) (a : List UInt8) (k : Int) (hpl : ∀ W, Below w.heap.size w W → Calls Tryz.prog 52 #[PV pm, SV a] W fun e w' => e = .returned (.int .i64 k) ∧ Below W.heap.size W w') (p : List UInt8 × List UInt8) (hat : ∀ W, Below w.heap.size w W → Calls Tryz.prog 53 #[PV px, .int .i64 k] W fun e w' => e = .returned (.tuple #[prV p, .int .i64 0]) ∧ Below W.heap.size W w') :
 Calls Tryz.prog 16 #[PV pm, SV a] w fun e w' => e = .returned (.tuple #[prV p, .int .i64 0]) ∧ Below w.heap.size w w' := by
 have B0 := (Below.refl w.heap.size w).alloc (Nat.le_refl _) (.cells #[.string ⟨#[]⟩, .string ⟨#[]⟩] 34)
 have q0 := heap_alloc_new w (.cells #[.string ⟨#[]⟩, .string ⟨#[]⟩] 34)
 have M0 := hM.below B0
 have hat := map_at_ok M0 52 (fun args w => by go_simp) a k p.1 p.2 (fun W hW => hpl W (B0.trans (hW.mono B0.size))) (fun W hW => hat W (B0.trans (hW.mono B0.size)))
 obtain ⟨p1, p2⟩ := p
 simp only [fnV, prV] at hat ⊢
 have HG := kq3 hat B0 q0
 clear M0 hM hat B0 q0 hpl
 go_enter Tryz.func16, Tryz.ntmps16
 go_wp2_with fail
 refine HG.out.1.mono ?_
 rintro e w1 ⟨rfl, hb⟩
 have q1 := (hb.block w.heap.size (by simp)).trans HG.out.2.2
 obtain ⟨c0, c1⟩ := cells2 q1
 obtain ⟨f0, f1⟩ := frees2 q1
 have q2 := st2_heap q1 (SV p1) (SV p2)
 have B2 := st2_below (HG.out.2.1.trans (hb.mono HG.out.2.1.size)) (Nat.le_refl _) (SV p1) (SV p2)
 have HB := kq2 q2 B2
 clear hb q1 q2 B2
 go_wp2_with fail
 obtain ⟨q2, B2⟩ := HB.out
 generalize ((w1.setCell ⟨w.heap.size, 0, none⟩ (SV p1)).setCell ⟨w.heap.size, 1, none⟩ (SV p2)) = w2 at *
 obtain ⟨e0, e1⟩ := cells2 q2
 exact bodyPost_ret (v := .tuple #[.agg #[SV p1, SV p2], .int .i64 0]) (by simp [results, Tryz.f16, go_sem, e0, e1]) rfl ⟨rfl, B2⟩
theorem mapH_ceiling {w : World} {pm px ps limit : Nat} (hM : MapOn w pm px ps limit) (a : List UInt8) (k : Int) (hpl : ∀ W, Below w.heap.size w W → Calls Tryz.prog 14 #[PV pm, SV a] W fun e w' => e = .returned (.int .i64 k) ∧ Below W.heap.size W w') (p : List UInt8 × List UInt8) (hat : ∀ W, Below w.heap.size w W → Calls Tryz.prog 53 #[PV px, .int .i64 k] W fun e w' => e = .returned (.tuple #[prV p, .int .i64 0]) ∧ Below W.heap.size W w') :
 Calls Tryz.prog 17 #[PV pm, SV a] w fun e w' => e = .returned (.tuple #[prV p, .int .i64 0]) ∧ Below w.heap.size w w' := by
 have B0 := (Below.refl w.heap.size w).alloc (Nat.le_refl _) (.cells #[.string ⟨#[]⟩, .string ⟨#[]⟩] 34)
 have q0 := heap_alloc_new w (.cells #[.string ⟨#[]⟩, .string ⟨#[]⟩] 34)
 have M0 := hM.below B0
 have hat := map_at_ok M0 14 (fun args w => by go_simp) a k p.1 p.2 (fun W hW => hpl W (B0.trans (hW.mono B0.size))) (fun W hW => hat W (B0.trans (hW.mono B0.size)))
 obtain ⟨p1, p2⟩ := p
 simp only [fnV, prV] at hat ⊢
 have HG := kq3 hat B0 q0
 clear M0 hM hat B0 q0 hpl
 go_enter Tryz.func17, Tryz.ntmps17
 go_wp2_with fail
 refine HG.out.1.mono ?_
 rintro e w1 ⟨rfl, hb⟩
 have q1 := (hb.block w.heap.size (by simp)).trans HG.out.2.2
 obtain ⟨c0, c1⟩ := cells2 q1
 obtain ⟨f0, f1⟩ := frees2 q1
 have q2 := st2_heap q1 (SV p1) (SV p2)
 have B2 := st2_below (HG.out.2.1.trans (hb.mono HG.out.2.1.size)) (Nat.le_refl _) (SV p1) (SV p2)
 have HB := kq2 q2 B2
 clear hb q1 q2 B2
 go_wp2_with fail
 obtain ⟨q2, B2⟩ := HB.out
 generalize ((w1.setCell ⟨w.heap.size, 0, none⟩ (SV p1)).setCell ⟨w.heap.size, 1, none⟩ (SV p2)) = w2 at *
 obtain ⟨e0, e1⟩ := cells2 q2
 exact bodyPost_ret (v := .tuple #[.agg #[SV p1, SV p2], .int .i64 0]) (by simp [results, Tryz.f17, go_sem, e0, e1]) rfl ⟨rfl, B2⟩
theorem mapH_floor_ref {w : World} {pm px ps limit : Nat} (hM : MapOn w pm px ps limit) (a : List UInt8) (k : Int) (hpl : ∀ W, Below w.heap.size w W → Calls Tryz.prog 52 #[PV pm, SV a] W fun e w' => e = .returned (.int .i64 k) ∧ Below W.heap.size W w') (s1 s2 : List UInt8) (hat : ∀ W, Below w.heap.size w W → Calls Tryz.prog 53 #[PV px, .int .i64 k] W fun e w' => e = .returned (.tuple #[.agg #[SV s1, SV s2], .int .i64 2]) ∧ Below W.heap.size W w') :
 Calls Tryz.prog 16 #[PV pm, SV a] w fun e w' => e = .returned (.tuple #[.agg #[.string ⟨#[]⟩, .string ⟨#[]⟩], .int .i64 5]) ∧ Below w.heap.size w w' := by
 have B0 := (Below.refl w.heap.size w).alloc (Nat.le_refl _) (.cells #[.string ⟨#[]⟩, .string ⟨#[]⟩] 34)
 have q0 := heap_alloc_new w (.cells #[.string ⟨#[]⟩, .string ⟨#[]⟩] 34)
 have M0 := hM.below B0
 have hat := map_at_ref M0 52 (fun args w => by go_simp) a k s1 s2 (fun W hW => hpl W (B0.trans (hW.mono B0.size))) (fun W hW => hat W (B0.trans (hW.mono B0.size)))
 simp only [fnV] at hat ⊢
 have HG := kq3 hat B0 q0
 clear M0 hM hat B0 q0 hpl
 go_enter Tryz.func16, Tryz.ntmps16
 go_wp2_with fail
 refine HG.out.1.mono ?_
 rintro e w1 ⟨rfl, hb⟩
 have q1 := (hb.block w.heap.size (by simp)).trans HG.out.2.2
 obtain ⟨c0, c1⟩ := cells2 q1
 obtain ⟨f0, f1⟩ := frees2 q1
 have q2 := st2_heap q1 (.string ⟨#[]⟩) (.string ⟨#[]⟩)
 have B2 := st2_below (HG.out.2.1.trans (hb.mono HG.out.2.1.size)) (Nat.le_refl _) (.string ⟨#[]⟩) (.string ⟨#[]⟩)
 have HB := kq2 q2 B2
 clear hb q1 q2 B2
 go_wp2_with fail
 obtain ⟨q2, B2⟩ := HB.out
 generalize ((w1.setCell ⟨w.heap.size, 0, none⟩ (.string ⟨#[]⟩)).setCell ⟨w.heap.size, 1, none⟩ (.string ⟨#[]⟩)) = w2 at *
 obtain ⟨e0, e1⟩ := cells2 q2
 exact bodyPost_ret (v := .tuple #[.agg #[.string ⟨#[]⟩, .string ⟨#[]⟩], .int .i64 5]) (by simp [results, Tryz.f16, go_sem, e0, e1]) rfl ⟨rfl, B2⟩
theorem mapH_ceiling_ref {w : World} {pm px ps limit : Nat} (hM : MapOn w pm px ps limit) (a : List UInt8) (k : Int) (hpl : ∀ W, Below w.heap.size w W → Calls Tryz.prog 14 #[PV pm, SV a] W fun e w' => e = .returned (.int .i64 k) ∧ Below W.heap.size W w') (s1 s2 : List UInt8) (hat : ∀ W, Below w.heap.size w W → Calls Tryz.prog 53 #[PV px, .int .i64 k] W fun e w' => e = .returned (.tuple #[.agg #[SV s1, SV s2], .int .i64 2]) ∧ Below W.heap.size W w') :
 Calls Tryz.prog 17 #[PV pm, SV a] w fun e w' => e = .returned (.tuple #[.agg #[.string ⟨#[]⟩, .string ⟨#[]⟩], .int .i64 5]) ∧ Below w.heap.size w w' := by
 have B0 := (Below.refl w.heap.size w).alloc (Nat.le_refl _) (.cells #[.string ⟨#[]⟩, .string ⟨#[]⟩] 34)
 have q0 := heap_alloc_new w (.cells #[.string ⟨#[]⟩, .string ⟨#[]⟩] 34)
 have M0 := hM.below B0
 have hat := map_at_ref M0 14 (fun args w => by go_simp) a k s1 s2 (fun W hW => hpl W (B0.trans (hW.mono B0.size))) (fun W hW => hat W (B0.trans (hW.mono B0.size)))
 simp only [fnV] at hat ⊢
 have HG := kq3 hat B0 q0
 clear M0 hM hat B0 q0 hpl
 go_enter Tryz.func17, Tryz.ntmps17
 go_wp2_with fail
 refine HG.out.1.mono ?_
 rintro e w1 ⟨rfl, hb⟩
 have q1 := (hb.block w.heap.size (by simp)).trans HG.out.2.2
 obtain ⟨c0, c1⟩ := cells2 q1
 obtain ⟨f0, f1⟩ := frees2 q1
 have q2 := st2_heap q1 (.string ⟨#[]⟩) (.string ⟨#[]⟩)
 have B2 := st2_below (HG.out.2.1.trans (hb.mono HG.out.2.1.size)) (Nat.le_refl _) (.string ⟨#[]⟩) (.string ⟨#[]⟩)
 have HB := kq2 q2 B2
 clear hb q1 q2 B2
 go_wp2_with fail
 obtain ⟨q2, B2⟩ := HB.out
 generalize ((w1.setCell ⟨w.heap.size, 0, none⟩ (.string ⟨#[]⟩)).setCell ⟨w.heap.size, 1, none⟩ (.string ⟨#[]⟩)) = w2 at *
 obtain ⟨e0, e1⟩ := cells2 q2
 exact bodyPost_ret (v := .tuple #[.agg #[.string ⟨#[]⟩, .string ⟨#[]⟩], .int .i64 5]) (by simp [results, Tryz.f17, go_sem, e0, e1]) rfl ⟨rfl, B2⟩
theorem mapH_absent_there {w : World} {pm px ps limit : Nat} (hM : MapOn w pm px ps limit) (a b : List UInt8) (ha : a.length ≤ limit) (hb : b.length ≤ limit) {t : List UInt8} (ht : Calls Tryz.prog 50 #[PV px, SV a] w fun e w' => e = .returned (.tuple #[SV t, .bool true]) ∧ Below w.heap.size w w') :
 Calls Tryz.prog 25 #[PV pm, SV a, SV b] w fun e w' => e = .returned (.int .i64 6) ∧ Below w.heap.size w w' := by
 have HG := kq2 (map_asked hM a b ha hb) ht
 unfold MapOn at hM
 obtain ⟨c0, c1, c2⟩ := cells3 hM
 clear hM ha hb ht
 go_enter Tryz.func25, Tryz.ntmps25
 go_wp2_with fail
 refine HG.out.1.mono ?_
 rintro e w1 ⟨rfl, rfl⟩
 go_wp2_with fail
 refine HG.out.2.mono ?_
 rintro e w2 ⟨rfl, hb2⟩
 have H2 := Lib.hid hb2
 clear hb2
 go_wp2_with fail
 go_ret
 exact ⟨rfl, H2.out⟩
theorem mapH_put {w : World} {pm px ps limit : Nat} (hM : MapOn w pm px ps limit) (a b t : List UInt8) (was : Bool) (ha : a.length ≤ limit) (hb : b.length ≤ limit) {Q : World → Prop} (ht : Calls Tryz.prog 58 #[PV px, .agg #[SV a, SV b]] w fun e w' => e = .returned (.tuple #[SV t, .bool was, .int .i64 0]) ∧ Q w') :
 Calls Tryz.prog 23 #[PV pm, SV a, SV b] w fun e w' => e = .returned (.tuple #[SV t, .bool was, .int .i64 0]) ∧ Q w' := by
 have HG := kq2 (map_asked hM a b ha hb) ht
 unfold MapOn at hM
 obtain ⟨c0, c1, c2⟩ := cells3 hM
 clear hM ha hb ht
 go_enter Tryz.func23, Tryz.ntmps23
 go_wp2_with fail
 refine HG.out.1.mono ?_
 rintro e w1 ⟨rfl, rfl⟩
 go_wp2_with fail
 refine HG.out.2.mono ?_
 rintro e w2 ⟨rfl, hr⟩
 have HR := Lib.hid hr
 clear hr
 go_wp2_with fail
 go_ret3
 exact ⟨rfl, HR.out⟩
theorem mapH_asked_long {w : World} {pm px ps limit : Nat} (hM : MapOn w pm px ps limit) (a b : List UInt8) (ha : limit < a.length ∨ limit < b.length) :
 Calls Tryz.prog 57 #[PV pm, SV a, SV b] w fun e w' => e = .returned (.int .i64 4) ∧ w = w' := by
 have HG := Lib.hid (map_none hM)
 unfold MapOn at hM
 obtain ⟨c0, c1, c2⟩ := cells3 hM
 clear hM
 by_cases h1 : limit < a.length
 · have ha1 : ((limit : Int) < (a.length : Int)) = True := eq_true (by omega)
   go_enter Tryz.func57, Tryz.ntmps57
   go_wp2_with fail
   refine HG.out.mono ?_
   rintro e w1 ⟨rfl, rfl⟩
   go_wp2_with fail
   go_ret
   exact ⟨rfl, rfl⟩
 · have ha1 : ((limit : Int) < (a.length : Int)) = False := eq_false (by omega)
   have hb1 : ((limit : Int) < (b.length : Int)) = True := eq_true (by omega)
   go_enter Tryz.func57, Tryz.ntmps57
   go_wp2_with fail
   refine HG.out.mono ?_
   rintro e w1 ⟨rfl, rfl⟩
   go_wp2_with fail
   go_ret
   exact ⟨rfl, rfl⟩
theorem mapH_put_long {w : World} {pm px ps limit : Nat} (hM : MapOn w pm px ps limit) (a b : List UInt8) (ha : limit < a.length ∨ limit < b.length) :
 Calls Tryz.prog 23 #[PV pm, SV a, SV b] w fun e w' => e = .returned (.tuple #[.string ⟨#[]⟩, .bool false, .int .i64 4]) ∧ w = w' := by
 have HG := Lib.hid (mapH_asked_long hM a b ha)
 clear hM ha
 go_enter Tryz.func23, Tryz.ntmps23
 go_wp2_with fail
 refine (HG.out).mono ?_
 rintro e w1 ⟨rfl, rfl⟩
 go_wp2_with fail
 go_ret3
 exact ⟨rfl, rfl⟩
theorem mapH_absent_long {w : World} {pm px ps limit : Nat} (hM : MapOn w pm px ps limit) (a b : List UInt8) (ha : limit < a.length ∨ limit < b.length) :
 Calls Tryz.prog 25 #[PV pm, SV a, SV b] w fun e w' => e = .returned (.int .i64 4) ∧ w = w' := by
 have HG := Lib.hid (mapH_asked_long hM a b ha)
 clear hM ha
 go_enter Tryz.func25, Tryz.ntmps25
 go_wp2_with fail
 refine HG.out.mono ?_
 rintro e w1 ⟨rfl, rfl⟩
 go_wp2_with fail
 go_ret
 exact ⟨rfl, rfl⟩
