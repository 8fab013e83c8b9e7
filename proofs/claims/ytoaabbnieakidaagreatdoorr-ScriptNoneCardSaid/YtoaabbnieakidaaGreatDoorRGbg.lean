/- Places of maps: at: the walk. -/
import Derived.Test.YtoaabbnieakidaaGreatDoorRGbf
namespace Go.Proofs.YtoaabbnieakidaaGreatDoorR
open Go.RowKit Go.BigFrame Go.Maps Go.WideMaps Lf

set_option maxRecDepth 100000 in
set_option maxHeartbeats 6400000 in
theorem map_at_ok {w : World} {pm px ps limit : Nat} (hM : MapOn w pm px ps limit) (pl : FuncId) (hen : ∀ (args : Array Value) (w : World), (callFunc pl args).run Tryz.prog w = .ok (.enter pl args) w) (a : List UInt8) (k : Int) (s1 s2 : List UInt8)
    (hpl : ∀ W, Below w.heap.size w W → Calls Tryz.prog pl #[PV pm, SV a] W fun e w' => e = .returned (.int .i64 k) ∧ Below W.heap.size W w')
    (hat : ∀ W, Below w.heap.size w W → Calls Tryz.prog 60 #[PV px, .int .i64 k] W fun e w' => e = .returned (.tuple #[.agg #[SV s1, SV s2], .int .i64 0]) ∧ Below W.heap.size W w') :
    Calls Tryz.prog 57 #[PV pm, fnV pl, SV a] w fun e w' => e = .returned (.tuple #[.agg #[SV s1, SV s2], .int .i64 0]) ∧ Below w.heap.size w w' := by
  have B0 := (Below.refl w.heap.size w).alloc (Nat.le_refl _) (.cells #[.string ⟨#[]⟩, .string ⟨#[]⟩] 50)
  have y0 := heap_alloc_new w (.cells #[.string ⟨#[]⟩, .string ⟨#[]⟩] 50)
  have hn := map_none (hM.below B0)
  obtain ⟨I, hIi, hIo⟩ : ∃ I : World → Prop, (∀ w', I w' → MapOn w' pm px ps limit) ∧ (∀ w', MapOn w' pm px ps limit → I w') := ⟨fun w' => MapOn w' pm px ps limit, fun _ h => h, fun _ a => a⟩
  have hy0 := fun x : Keeps I => hIi _ x.ok
  simp only [MapOn] at hy0
  have m0 : ∀ x : Keeps I, x.to.cell? ⟨pm, 0, none⟩ = some (PV ps) := fun x => by rw [cell_of_block (hy0 x)]; rfl
  have m1 : ∀ x : Keeps I, x.to.cell? ⟨pm, 1, none⟩ = some (PV px) := fun x => by rw [cell_of_block (hy0 x)]; rfl
  have m2 : ∀ x : Keeps I, x.to.cell? ⟨pm, 2, none⟩ = some (.int .i64 limit) := fun x => by rw [cell_of_block (hy0 x)]; rfl
  have hI0 : I (w.alloc (.cells #[.string ⟨#[]⟩, .string ⟨#[]⟩] 50)).drew := hIo _ (hM.below B0.drew)
  have HI := Lib.hid hIo
  have HG := Lib.hid (And.intro hn (And.intro hpl (And.intro hat (And.intro hM (And.intro B0 y0)))))
  clear hn hpl hat hM hIi hIo hy0 B0 y0
  simp only [fnV]
  go_enter Tryz.func57, Tryz.ntmps57
  go_wp2_with fail
  refine HG.out.1.mono ?_
  rintro e w1 ⟨rfl, rfl⟩
  go_wp2_with fail
  refine wp_region_plan I (.take 0 (.take 1 (.take 2 (.take 3 (.take 4 (.take 5 (.take 6 (.two 7 12 (.two 8 12 (.take 9 (.take 10 (.take 11 (.go 12 (.go 13 (.go 14 .nil)))))) (.go 8 (.take 9 (.take 10 (.take 11 (.go 13 (.go 14 .nil))))))) (.go 7 (.go 8 (.take 9 (.take 10 (.take 11 (.go 13 (.go 14 .nil))))))))))))))) (by kernel_rfl) (by kernel_rfl) hI0 ?_
  refine' plan_take _ (by rfl) _ (by rfl) ?_ ?_
  rotate_left
  · rintro _ ⟨x, rfl⟩
    have hxm0 := m0 x
    have hxm1 := m1 x
    have hxm2 := m2 x
    go_simp
    try with_reducible rfl
  try simp only [Act.put, List.setIfInBounds_toArray, List.set_cons_zero, List.set_cons_succ]
  refine' plan_take _ (by rfl) _ (by rfl) ?_ ?_
  rotate_left
  · rintro _ ⟨x, rfl⟩
    have hxm0 := m0 x
    have hxm1 := m1 x
    have hxm2 := m2 x
    go_simp
    try with_reducible rfl
  try simp only [Act.put, List.setIfInBounds_toArray, List.set_cons_zero, List.set_cons_succ]
  refine' plan_take _ (by rfl) _ (by rfl) ?_ ?_
  rotate_left
  · rintro _ ⟨x, rfl⟩
    have hxm0 := m0 x
    have hxm1 := m1 x
    have hxm2 := m2 x
    go_simp
    try with_reducible rfl
  try simp only [Act.put, List.setIfInBounds_toArray, List.set_cons_zero, List.set_cons_succ]
  refine' plan_take _ (by rfl) _ (by rfl) ?_ ?_
  rotate_left
  · rintro _ ⟨x, rfl⟩
    have hxm0 := m0 x
    have hxm1 := m1 x
    have hxm2 := m2 x
    go_simp
    try with_reducible rfl
  try simp only [Act.put, List.setIfInBounds_toArray, List.set_cons_zero, List.set_cons_succ]
  refine' plan_take _ (by rfl) _ (by rfl) ?_ ?_
  rotate_left
  · rintro _ ⟨x, rfl⟩
    have hxm0 := m0 x
    have hxm1 := m1 x
    have hxm2 := m2 x
    go_simp
    try with_reducible rfl
  try simp only [Act.put, List.setIfInBounds_toArray, List.set_cons_zero, List.set_cons_succ]
  refine' plan_take _ (by rfl) _ (by rfl) ?_ ?_
  rotate_left
  · rintro _ ⟨x, rfl⟩
    have hxm0 := m0 x
    have hxm1 := m1 x
    have hxm2 := m2 x
    go_simp
    try with_reducible rfl
  try simp only [Act.put, List.setIfInBounds_toArray, List.set_cons_zero, List.set_cons_succ]
  refine' plan_take _ (by rfl) _ (by rfl) ?_ ?_
  rotate_left
  · rintro _ ⟨x, rfl⟩
    have hxm0 := m0 x
    have hxm1 := m1 x
    have hxm2 := m2 x
    go_simp
    try with_reducible rfl
  try simp only [Act.put, List.setIfInBounds_toArray, List.set_cons_zero, List.set_cons_succ]
  refine plan_two ?h1 ?h2
  case' h1 =>
    refine plan_do _ (by rfl) (by rfl) (fun K hK => ?_)
    go_simp
    refine (HG.out.2.1 _ HG.out.2.2.2.2.1.drew).mono ?_
    rintro e w2 ⟨rfl, hb2⟩
    have Bw2 := HG.out.2.2.2.2.1.drew.trans (hb2.mono HG.out.2.2.2.2.1.drew.size)
    have yw2 := (hb2.block w.heap.size (Array.getElem?_eq_some_iff.1 HG.out.2.2.2.2.2).1).trans HG.out.2.2.2.2.2
    have mw2 : MapOn w2 pm px ps limit := HG.out.2.2.2.1.below Bw2
    try go_simp
    refine hK.out _ _ (HI.out _ mw2) ?_
    clear hK K
    try simp only [Act.put, List.setIfInBounds_toArray, List.set_cons_zero, List.set_cons_succ]
    have Hw2 := Lib.hid (And.intro Bw2 yw2)
    clear yw2 Bw2 mw2 hb2
    refine plan_two ?h3 ?h4
    case' h3 =>
      refine plan_do _ (by rfl) (by rfl) (fun K hK => ?_)
      go_simp
      refine (HG.out.2.2.1 _ Hw2.out.1).mono ?_
      rintro e w3 ⟨rfl, hb3⟩
      have Bw3 := Hw2.out.1.trans (hb3.mono Hw2.out.1.size)
      have yw3 := (hb3.block w.heap.size (Array.getElem?_eq_some_iff.1 Hw2.out.2).1).trans Hw2.out.2
      have mw3 : MapOn w3 pm px ps limit := HG.out.2.2.2.1.below Bw3
      clear hb3
      try go_simp
      refine hK.out _ _ (HI.out _ mw3) ?_
      clear hK K
      try simp only [Act.put, List.setIfInBounds_toArray, List.set_cons_zero, List.set_cons_succ]
      refine' plan_take _ (by rfl) _ (by rfl) ?_ ?_
      rotate_left
      · rintro _ ⟨x, rfl⟩
        go_simp
        try with_reducible rfl
      try simp only [Act.put, List.setIfInBounds_toArray, List.set_cons_zero, List.set_cons_succ]
      refine' plan_take _ (by rfl) _ (by rfl) ?_ ?_
      rotate_left
      · rintro _ ⟨x, rfl⟩
        go_simp
        try with_reducible rfl
      try simp only [Act.put, List.setIfInBounds_toArray, List.set_cons_zero, List.set_cons_succ]
      refine' plan_take _ (by rfl) _ (by rfl) ?_ ?_
      rotate_left
      · rintro _ ⟨x, rfl⟩
        go_simp
        try with_reducible rfl
      try simp only [Act.put, List.setIfInBounds_toArray, List.set_cons_zero, List.set_cons_succ]
      refine plan_do _ (by rfl) (by rfl) (fun K hK => ?_)
      go_simp
      have A4 := (Below.refl w3.heap.size w3).alloc (Nat.le_refl _) (.cells #[.string ⟨#[]⟩, .string ⟨#[]⟩] 50)
      have mA := mw3.below A4
      have BA := Bw3.trans (A4.mono Bw3.size)
      have yA := (A4.block w.heap.size (Array.getElem?_eq_some_iff.1 yw3).1).trans yw3
      have qA := heap_alloc_new w3 (.cells #[.string ⟨#[]⟩, .string ⟨#[]⟩] 50)
      have ltA : w.heap.size < w3.heap.size := (Array.getElem?_eq_some_iff.1 yw3).1
      clear A4 mw3 Bw3 yw3 Hw2
      generalize w3.alloc (.cells #[.string ⟨#[]⟩, .string ⟨#[]⟩] 50) = W at *
      generalize w3.heap.size = b8 at *
      try go_simp
      refine hK.out _ _ (HI.out _ mA) ?_
      clear hK K
      try simp only [Act.put, List.setIfInBounds_toArray, List.set_cons_zero, List.set_cons_succ]
      have c0 : (W).cell? ⟨b8, 0, none⟩ = some (.string ⟨#[]⟩) := by rw [cell_of_block qA]; rfl
      have c1 : (W).cell? ⟨b8, 1, none⟩ = some (.string ⟨#[]⟩) := by rw [cell_of_block qA]; rfl
      have f0 : (W).frozen? ⟨b8, 0, none⟩ = false := frozen_of_block qA
      have f1 : (W).frozen? ⟨b8, 1, none⟩ = false := frozen_of_block qA
      have HA := Lib.hid (And.intro mA (And.intro BA (And.intro yA (And.intro qA ltA))))
      clear mA BA yA qA ltA
      refine plan_do _ (by rfl) (by rfl) (fun K hK => ?_)
      go_simp
      have qB := st2_heap HA.out.2.2.2.1 (SV s1) (SV s2)
      have BB := st2_below HA.out.2.1 (Nat.le_of_lt HA.out.2.2.2.2) (SV s1) (SV s2)
      have yB := (st2_other (Nat.ne_of_lt HA.out.2.2.2.2) (SV s1) (SV s2)).trans HA.out.2.2.1
      have mB : MapOn ((W.setCell ⟨b8, 0, none⟩ (SV s1)).setCell ⟨b8, 1, none⟩ (SV s2)) pm px ps limit := HG.out.2.2.2.1.below BB
      clear c0 c1 f0 f1 HA
      generalize ((W.setCell ⟨b8, 0, none⟩ (SV s1)).setCell ⟨b8, 1, none⟩ (SV s2)) = W7 at *
      try go_simp
      refine hK.out _ _ (HI.out _ mB) ?_
      clear hK K
      try simp only [Act.put, List.setIfInBounds_toArray, List.set_cons_zero, List.set_cons_succ]
      refine plan_do _ (by rfl) (by rfl) (fun K hK => ?_)
      go_simp
      try go_simp
      refine hK.out _ _ (HI.out _ mB) ?_
      clear hK K
      try simp only [Act.put, List.setIfInBounds_toArray, List.set_cons_zero, List.set_cons_succ]
      refine plan_nil ?_
      have H7 := Lib.hid (And.intro BB (And.intro yB qB))
      clear BB yB qB mB
      clear w2 w3
    case' h4 =>
      refine plan_do _ (by rfl) (by rfl) (fun K hK => ?_)
      go_simp
      have A4 := (Below.refl w2.heap.size w2).alloc (Nat.le_refl _) (.cells #[.string ⟨#[]⟩, .string ⟨#[]⟩] 50)
      have BZ := Hw2.out.1.trans (A4.mono Hw2.out.1.size)
      have yZ := (A4.block w.heap.size (Array.getElem?_eq_some_iff.1 Hw2.out.2).1).trans Hw2.out.2
      have qZ := heap_alloc_new w2 (.cells #[.string ⟨#[]⟩, .string ⟨#[]⟩] 50)
      have mZ : MapOn (w2.alloc (.cells #[.string ⟨#[]⟩, .string ⟨#[]⟩] 50)) pm px ps limit := HG.out.2.2.2.1.below BZ
      have ltA : w.heap.size < w2.heap.size := (Array.getElem?_eq_some_iff.1 Hw2.out.2).1
      clear A4 Hw2
      generalize w2.alloc (.cells #[.string ⟨#[]⟩, .string ⟨#[]⟩] 50) = w4 at *
      generalize w2.heap.size = b8 at *
      try go_simp
      refine hK.out _ _ (HI.out _ mZ) ?_
      clear hK K
      try simp only [Act.put, List.setIfInBounds_toArray, List.set_cons_zero, List.set_cons_succ]
      have HZ := Lib.hid (And.intro BZ (And.intro yZ qZ))
      clear BZ yZ qZ mZ
      refine plan_do _ (by rfl) (by rfl) (fun K hK => ?_)
      go_simp
      refine (HG.out.2.2.1 _ HZ.out.1).mono ?_
      rintro e W ⟨rfl, hb3⟩
      have BW := HZ.out.1.trans (hb3.mono HZ.out.1.size)
      have yW := (hb3.block w.heap.size (Array.getElem?_eq_some_iff.1 HZ.out.2.1).1).trans HZ.out.2.1
      have qW := (hb3.block _ (Array.getElem?_eq_some_iff.1 HZ.out.2.2).1).trans HZ.out.2.2
      have mW : MapOn W pm px ps limit := HG.out.2.2.2.1.below BW
      clear hb3
      try go_simp
      refine hK.out _ _ (HI.out _ mW) ?_
      clear hK K
      try simp only [Act.put, List.setIfInBounds_toArray, List.set_cons_zero, List.set_cons_succ]
      have mA := mW
      have BA := BW
      have yA := yW
      have qA := qW
      clear mW BW yW qW HZ
      refine' plan_take _ (by rfl) _ (by rfl) ?_ ?_
      rotate_left
      · rintro _ ⟨x, rfl⟩
        go_simp
        try with_reducible rfl
      try simp only [Act.put, List.setIfInBounds_toArray, List.set_cons_zero, List.set_cons_succ]
      refine' plan_take _ (by rfl) _ (by rfl) ?_ ?_
      rotate_left
      · rintro _ ⟨x, rfl⟩
        go_simp
        try with_reducible rfl
      try simp only [Act.put, List.setIfInBounds_toArray, List.set_cons_zero, List.set_cons_succ]
      refine' plan_take _ (by rfl) _ (by rfl) ?_ ?_
      rotate_left
      · rintro _ ⟨x, rfl⟩
        go_simp
        try with_reducible rfl
      try simp only [Act.put, List.setIfInBounds_toArray, List.set_cons_zero, List.set_cons_succ]
      have c0 : (W).cell? ⟨b8, 0, none⟩ = some (.string ⟨#[]⟩) := by rw [cell_of_block qA]; rfl
      have c1 : (W).cell? ⟨b8, 1, none⟩ = some (.string ⟨#[]⟩) := by rw [cell_of_block qA]; rfl
      have f0 : (W).frozen? ⟨b8, 0, none⟩ = false := frozen_of_block qA
      have f1 : (W).frozen? ⟨b8, 1, none⟩ = false := frozen_of_block qA
      have HA := Lib.hid (And.intro mA (And.intro BA (And.intro yA (And.intro qA ltA))))
      clear mA BA yA qA ltA
      refine plan_do _ (by rfl) (by rfl) (fun K hK => ?_)
      go_simp
      have qB := st2_heap HA.out.2.2.2.1 (SV s1) (SV s2)
      have BB := st2_below HA.out.2.1 (Nat.le_of_lt HA.out.2.2.2.2) (SV s1) (SV s2)
      have yB := (st2_other (Nat.ne_of_lt HA.out.2.2.2.2) (SV s1) (SV s2)).trans HA.out.2.2.1
      have mB : MapOn ((W.setCell ⟨b8, 0, none⟩ (SV s1)).setCell ⟨b8, 1, none⟩ (SV s2)) pm px ps limit := HG.out.2.2.2.1.below BB
      clear c0 c1 f0 f1 HA
      generalize ((W.setCell ⟨b8, 0, none⟩ (SV s1)).setCell ⟨b8, 1, none⟩ (SV s2)) = W7 at *
      try go_simp
      refine hK.out _ _ (HI.out _ mB) ?_
      clear hK K
      try simp only [Act.put, List.setIfInBounds_toArray, List.set_cons_zero, List.set_cons_succ]
      refine plan_do _ (by rfl) (by rfl) (fun K hK => ?_)
      go_simp
      try go_simp
      refine hK.out _ _ (HI.out _ mB) ?_
      clear hK K
      try simp only [Act.put, List.setIfInBounds_toArray, List.set_cons_zero, List.set_cons_succ]
      refine plan_nil ?_
      have H7 := Lib.hid (And.intro BB (And.intro yB qB))
      clear BB yB qB mB
      clear w2 w4
  case' h2 =>
    refine plan_do _ (by rfl) (by rfl) (fun K hK => ?_)
    go_simp
    have A2 := ((Below.refl (w.alloc (.cells #[.string ⟨#[]⟩, .string ⟨#[]⟩] 50)).heap.size (w.alloc (.cells #[.string ⟨#[]⟩, .string ⟨#[]⟩] 50))).alloc (Nat.le_refl _) (.cells #[.string ⟨#[]⟩, .string ⟨#[]⟩] 50)).drew
    have BZ := HG.out.2.2.2.2.1.trans (A2.mono HG.out.2.2.2.2.1.size)
    have qZ : ((w.alloc (.cells #[.string ⟨#[]⟩, .string ⟨#[]⟩] 50)).alloc (.cells #[.string ⟨#[]⟩, .string ⟨#[]⟩] 50)).drew.heap[(w.alloc (.cells #[.string ⟨#[]⟩, .string ⟨#[]⟩] 50)).heap.size]? = _ := heap_alloc_new (w.alloc (.cells #[.string ⟨#[]⟩, .string ⟨#[]⟩] 50)) (.cells #[.string ⟨#[]⟩, .string ⟨#[]⟩] 50)
    have yZ : ((w.alloc (.cells #[.string ⟨#[]⟩, .string ⟨#[]⟩] 50)).alloc (.cells #[.string ⟨#[]⟩, .string ⟨#[]⟩] 50)).drew.heap[w.heap.size]? = _ := (A2.block w.heap.size (by simp)).trans HG.out.2.2.2.2.2
    have mZ : MapOn ((w.alloc (.cells #[.string ⟨#[]⟩, .string ⟨#[]⟩] 50)).alloc (.cells #[.string ⟨#[]⟩, .string ⟨#[]⟩] 50)).drew pm px ps limit := HG.out.2.2.2.1.below BZ
    simp only [World.size_alloc] at qZ
    clear A2
    generalize ((w.alloc (.cells #[.string ⟨#[]⟩, .string ⟨#[]⟩] 50)).alloc (.cells #[.string ⟨#[]⟩, .string ⟨#[]⟩] 50)).drew = w4 at *
    try go_simp
    refine hK.out _ _ (HI.out _ mZ) ?_
    clear hK K
    try simp only [Act.put, List.setIfInBounds_toArray, List.set_cons_zero, List.set_cons_succ]
    have HZ := Lib.hid (And.intro BZ (And.intro yZ qZ))
    clear BZ yZ qZ mZ
    refine plan_do _ (by rfl) (by rfl) (fun K hK => ?_)
    go_simp
    refine (HG.out.2.1 _ HZ.out.1).mono ?_
    rintro e w5 ⟨rfl, hb2⟩
    have B5 := HZ.out.1.trans (hb2.mono HZ.out.1.size)
    have y5 := (hb2.block w.heap.size (Array.getElem?_eq_some_iff.1 HZ.out.2.1).1).trans HZ.out.2.1
    have q5 := (hb2.block _ (Array.getElem?_eq_some_iff.1 HZ.out.2.2).1).trans HZ.out.2.2
    have m5 : MapOn w5 pm px ps limit := HG.out.2.2.2.1.below B5
    clear hb2 HZ
    try go_simp
    refine hK.out _ _ (HI.out _ m5) ?_
    clear hK K
    try simp only [Act.put, List.setIfInBounds_toArray, List.set_cons_zero, List.set_cons_succ]
    have HZ := Lib.hid (And.intro B5 (And.intro y5 q5))
    clear B5 y5 q5 m5
    refine plan_do _ (by rfl) (by rfl) (fun K hK => ?_)
    go_simp
    refine (HG.out.2.2.1 _ HZ.out.1).mono ?_
    rintro e W ⟨rfl, hb3⟩
    have BW := HZ.out.1.trans (hb3.mono HZ.out.1.size)
    have yW := (hb3.block w.heap.size (Array.getElem?_eq_some_iff.1 HZ.out.2.1).1).trans HZ.out.2.1
    have qW := (hb3.block _ (Array.getElem?_eq_some_iff.1 HZ.out.2.2).1).trans HZ.out.2.2
    have mW : MapOn W pm px ps limit := HG.out.2.2.2.1.below BW
    clear hb3
    try go_simp
    refine hK.out _ _ (HI.out _ mW) ?_
    clear hK K
    try simp only [Act.put, List.setIfInBounds_toArray, List.set_cons_zero, List.set_cons_succ]
    have mA := mW
    have BA := BW
    have yA := yW
    have qA := qW
    have ltA : w.heap.size < w.heap.size + 1 := by omega
    clear mW BW yW qW HZ
    generalize w.heap.size + 1 = b8 at *
    refine' plan_take _ (by rfl) _ (by rfl) ?_ ?_
    rotate_left
    · rintro _ ⟨x, rfl⟩
      go_simp
      try with_reducible rfl
    try simp only [Act.put, List.setIfInBounds_toArray, List.set_cons_zero, List.set_cons_succ]
    refine' plan_take _ (by rfl) _ (by rfl) ?_ ?_
    rotate_left
    · rintro _ ⟨x, rfl⟩
      go_simp
      try with_reducible rfl
    try simp only [Act.put, List.setIfInBounds_toArray, List.set_cons_zero, List.set_cons_succ]
    refine' plan_take _ (by rfl) _ (by rfl) ?_ ?_
    rotate_left
    · rintro _ ⟨x, rfl⟩
      go_simp
      try with_reducible rfl
    try simp only [Act.put, List.setIfInBounds_toArray, List.set_cons_zero, List.set_cons_succ]
    have c0 : (W).cell? ⟨b8, 0, none⟩ = some (.string ⟨#[]⟩) := by rw [cell_of_block qA]; rfl
    have c1 : (W).cell? ⟨b8, 1, none⟩ = some (.string ⟨#[]⟩) := by rw [cell_of_block qA]; rfl
    have f0 : (W).frozen? ⟨b8, 0, none⟩ = false := frozen_of_block qA
    have f1 : (W).frozen? ⟨b8, 1, none⟩ = false := frozen_of_block qA
    have HA := Lib.hid (And.intro mA (And.intro BA (And.intro yA (And.intro qA ltA))))
    clear mA BA yA qA ltA
    refine plan_do _ (by rfl) (by rfl) (fun K hK => ?_)
    go_simp
    have qB := st2_heap HA.out.2.2.2.1 (SV s1) (SV s2)
    have BB := st2_below HA.out.2.1 (Nat.le_of_lt HA.out.2.2.2.2) (SV s1) (SV s2)
    have yB := (st2_other (Nat.ne_of_lt HA.out.2.2.2.2) (SV s1) (SV s2)).trans HA.out.2.2.1
    have mB : MapOn ((W.setCell ⟨b8, 0, none⟩ (SV s1)).setCell ⟨b8, 1, none⟩ (SV s2)) pm px ps limit := HG.out.2.2.2.1.below BB
    clear c0 c1 f0 f1 HA
    generalize ((W.setCell ⟨b8, 0, none⟩ (SV s1)).setCell ⟨b8, 1, none⟩ (SV s2)) = W7 at *
    try go_simp
    refine hK.out _ _ (HI.out _ mB) ?_
    clear hK K
    try simp only [Act.put, List.setIfInBounds_toArray, List.set_cons_zero, List.set_cons_succ]
    refine plan_do _ (by rfl) (by rfl) (fun K hK => ?_)
    go_simp
    try go_simp
    refine hK.out _ _ (HI.out _ mB) ?_
    clear hK K
    try simp only [Act.put, List.setIfInBounds_toArray, List.set_cons_zero, List.set_cons_succ]
    refine plan_nil ?_
    have H7 := Lib.hid (And.intro BB (And.intro yB qB))
    clear BB yB qB mB
    clear w4 w5
  all_goals
    clear HI hI0 m0 m1 m2 I
    have y := H7.out.2.1
    have q := H7.out.2.2
    have c0 : (W7).cell? ⟨w.heap.size, 0, none⟩ = some (.string ⟨#[]⟩) := by rw [cell_of_block y]; rfl
    have c1 : (W7).cell? ⟨w.heap.size, 1, none⟩ = some (.string ⟨#[]⟩) := by rw [cell_of_block y]; rfl
    have f0 : (W7).frozen? ⟨w.heap.size, 0, none⟩ = false := frozen_of_block y
    have f1 : (W7).frozen? ⟨w.heap.size, 1, none⟩ = false := frozen_of_block y
    have d0 : (W7).cell? ⟨b8, 0, none⟩ = some (SV s1) := by rw [cell_of_block q]; rfl
    have d1 : (W7).cell? ⟨b8, 1, none⟩ = some (SV s2) := by rw [cell_of_block q]; rfl
    have q5 := st2_heap y (SV s1) (SV s2)
    have B5 := st2_below H7.out.1 (Nat.le_refl _) (SV s1) (SV s2)
    have HB := Lib.hid (And.intro q5 B5)
    clear y q q5 B5
    go_wp2_with fail
    obtain ⟨q5, B5⟩ := HB.out
    generalize ((W7.setCell ⟨w.heap.size, 0, none⟩ ((SV s1))).setCell ⟨w.heap.size, 1, none⟩ ((SV s2))) = wF at *
    have e0 : (wF).cell? ⟨w.heap.size, 0, none⟩ = some ((SV s1)) := by rw [cell_of_block q5]; rfl
    have e1 : (wF).cell? ⟨w.heap.size, 1, none⟩ = some ((SV s2)) := by rw [cell_of_block q5]; rfl
    exact bodyPost_ret (v := .tuple #[.agg #[(SV s1), (SV s2)], .int .i64 0]) (by simp [results, Tryz.f57, go_sem, e0, e1]) rfl ⟨rfl, B5⟩

set_option maxRecDepth 100000 in
set_option maxHeartbeats 6400000 in
theorem map_at_ref {w : World} {pm px ps limit : Nat} (hM : MapOn w pm px ps limit) (pl : FuncId) (hen : ∀ (args : Array Value) (w : World), (callFunc pl args).run Tryz.prog w = .ok (.enter pl args) w) (a : List UInt8) (k : Int) (s1 s2 : List UInt8)
    (hpl : ∀ W, Below w.heap.size w W → Calls Tryz.prog pl #[PV pm, SV a] W fun e w' => e = .returned (.int .i64 k) ∧ Below W.heap.size W w')
    (hat : ∀ W, Below w.heap.size w W → Calls Tryz.prog 60 #[PV px, .int .i64 k] W fun e w' => e = .returned (.tuple #[.agg #[SV s1, SV s2], .int .i64 2]) ∧ Below W.heap.size W w') :
    Calls Tryz.prog 57 #[PV pm, fnV pl, SV a] w fun e w' => e = .returned (.tuple #[.agg #[.string ⟨#[]⟩, .string ⟨#[]⟩], .int .i64 5]) ∧ Below w.heap.size w w' := by
  have B0 := (Below.refl w.heap.size w).alloc (Nat.le_refl _) (.cells #[.string ⟨#[]⟩, .string ⟨#[]⟩] 50)
  have y0 := heap_alloc_new w (.cells #[.string ⟨#[]⟩, .string ⟨#[]⟩] 50)
  have hn := map_none (hM.below B0)
  obtain ⟨I, hIi, hIo⟩ : ∃ I : World → Prop, (∀ w', I w' → MapOn w' pm px ps limit) ∧ (∀ w', MapOn w' pm px ps limit → I w') := ⟨fun w' => MapOn w' pm px ps limit, fun _ h => h, fun _ a => a⟩
  have hy0 := fun x : Keeps I => hIi _ x.ok
  simp only [MapOn] at hy0
  have m0 : ∀ x : Keeps I, x.to.cell? ⟨pm, 0, none⟩ = some (PV ps) := fun x => by rw [cell_of_block (hy0 x)]; rfl
  have m1 : ∀ x : Keeps I, x.to.cell? ⟨pm, 1, none⟩ = some (PV px) := fun x => by rw [cell_of_block (hy0 x)]; rfl
  have m2 : ∀ x : Keeps I, x.to.cell? ⟨pm, 2, none⟩ = some (.int .i64 limit) := fun x => by rw [cell_of_block (hy0 x)]; rfl
  have hI0 : I (w.alloc (.cells #[.string ⟨#[]⟩, .string ⟨#[]⟩] 50)).drew := hIo _ (hM.below B0.drew)
  have HI := Lib.hid hIo
  have HG := Lib.hid (And.intro hn (And.intro hpl (And.intro hat (And.intro hM (And.intro B0 y0)))))
  clear hn hpl hat hM hIi hIo hy0 B0 y0
  simp only [fnV]
  go_enter Tryz.func57, Tryz.ntmps57
  go_wp2_with fail
  refine HG.out.1.mono ?_
  rintro e w1 ⟨rfl, rfl⟩
  go_wp2_with fail
  refine wp_region_plan I (.take 0 (.take 1 (.take 2 (.take 3 (.take 4 (.take 5 (.take 6 (.two 7 12 (.two 8 12 (.take 9 (.take 10 (.take 11 (.go 12 (.go 13 (.go 14 .nil)))))) (.go 8 (.take 9 (.take 10 (.take 11 (.go 13 (.go 14 .nil))))))) (.go 7 (.go 8 (.take 9 (.take 10 (.take 11 (.go 13 (.go 14 .nil))))))))))))))) (by kernel_rfl) (by kernel_rfl) hI0 ?_
  refine' plan_take _ (by rfl) _ (by rfl) ?_ ?_
  rotate_left
  · rintro _ ⟨x, rfl⟩
    have hxm0 := m0 x
    have hxm1 := m1 x
    have hxm2 := m2 x
    go_simp
    try with_reducible rfl
  try simp only [Act.put, List.setIfInBounds_toArray, List.set_cons_zero, List.set_cons_succ]
  refine' plan_take _ (by rfl) _ (by rfl) ?_ ?_
  rotate_left
  · rintro _ ⟨x, rfl⟩
    have hxm0 := m0 x
    have hxm1 := m1 x
    have hxm2 := m2 x
    go_simp
    try with_reducible rfl
  try simp only [Act.put, List.setIfInBounds_toArray, List.set_cons_zero, List.set_cons_succ]
  refine' plan_take _ (by rfl) _ (by rfl) ?_ ?_
  rotate_left
  · rintro _ ⟨x, rfl⟩
    have hxm0 := m0 x
    have hxm1 := m1 x
    have hxm2 := m2 x
    go_simp
    try with_reducible rfl
  try simp only [Act.put, List.setIfInBounds_toArray, List.set_cons_zero, List.set_cons_succ]
  refine' plan_take _ (by rfl) _ (by rfl) ?_ ?_
  rotate_left
  · rintro _ ⟨x, rfl⟩
    have hxm0 := m0 x
    have hxm1 := m1 x
    have hxm2 := m2 x
    go_simp
    try with_reducible rfl
  try simp only [Act.put, List.setIfInBounds_toArray, List.set_cons_zero, List.set_cons_succ]
  refine' plan_take _ (by rfl) _ (by rfl) ?_ ?_
  rotate_left
  · rintro _ ⟨x, rfl⟩
    have hxm0 := m0 x
    have hxm1 := m1 x
    have hxm2 := m2 x
    go_simp
    try with_reducible rfl
  try simp only [Act.put, List.setIfInBounds_toArray, List.set_cons_zero, List.set_cons_succ]
  refine' plan_take _ (by rfl) _ (by rfl) ?_ ?_
  rotate_left
  · rintro _ ⟨x, rfl⟩
    have hxm0 := m0 x
    have hxm1 := m1 x
    have hxm2 := m2 x
    go_simp
    try with_reducible rfl
  try simp only [Act.put, List.setIfInBounds_toArray, List.set_cons_zero, List.set_cons_succ]
  refine' plan_take _ (by rfl) _ (by rfl) ?_ ?_
  rotate_left
  · rintro _ ⟨x, rfl⟩
    have hxm0 := m0 x
    have hxm1 := m1 x
    have hxm2 := m2 x
    go_simp
    try with_reducible rfl
  try simp only [Act.put, List.setIfInBounds_toArray, List.set_cons_zero, List.set_cons_succ]
  refine plan_two ?h1 ?h2
  case' h1 =>
    refine plan_do _ (by rfl) (by rfl) (fun K hK => ?_)
    go_simp
    refine (HG.out.2.1 _ HG.out.2.2.2.2.1.drew).mono ?_
    rintro e w2 ⟨rfl, hb2⟩
    have Bw2 := HG.out.2.2.2.2.1.drew.trans (hb2.mono HG.out.2.2.2.2.1.drew.size)
    have yw2 := (hb2.block w.heap.size (Array.getElem?_eq_some_iff.1 HG.out.2.2.2.2.2).1).trans HG.out.2.2.2.2.2
    have mw2 : MapOn w2 pm px ps limit := HG.out.2.2.2.1.below Bw2
    try go_simp
    refine hK.out _ _ (HI.out _ mw2) ?_
    clear hK K
    try simp only [Act.put, List.setIfInBounds_toArray, List.set_cons_zero, List.set_cons_succ]
    have Hw2 := Lib.hid (And.intro Bw2 yw2)
    clear yw2 Bw2 mw2 hb2
    refine plan_two ?h3 ?h4
    case' h3 =>
      refine plan_do _ (by rfl) (by rfl) (fun K hK => ?_)
      go_simp
      refine (HG.out.2.2.1 _ Hw2.out.1).mono ?_
      rintro e w3 ⟨rfl, hb3⟩
      have Bw3 := Hw2.out.1.trans (hb3.mono Hw2.out.1.size)
      have yw3 := (hb3.block w.heap.size (Array.getElem?_eq_some_iff.1 Hw2.out.2).1).trans Hw2.out.2
      have mw3 : MapOn w3 pm px ps limit := HG.out.2.2.2.1.below Bw3
      clear hb3
      try go_simp
      refine hK.out _ _ (HI.out _ mw3) ?_
      clear hK K
      try simp only [Act.put, List.setIfInBounds_toArray, List.set_cons_zero, List.set_cons_succ]
      refine' plan_take _ (by rfl) _ (by rfl) ?_ ?_
      rotate_left
      · rintro _ ⟨x, rfl⟩
        go_simp
        try with_reducible rfl
      try simp only [Act.put, List.setIfInBounds_toArray, List.set_cons_zero, List.set_cons_succ]
      refine' plan_take _ (by rfl) _ (by rfl) ?_ ?_
      rotate_left
      · rintro _ ⟨x, rfl⟩
        go_simp
        try with_reducible rfl
      try simp only [Act.put, List.setIfInBounds_toArray, List.set_cons_zero, List.set_cons_succ]
      refine' plan_take _ (by rfl) _ (by rfl) ?_ ?_
      rotate_left
      · rintro _ ⟨x, rfl⟩
        go_simp
        try with_reducible rfl
      try simp only [Act.put, List.setIfInBounds_toArray, List.set_cons_zero, List.set_cons_succ]
      refine plan_do _ (by rfl) (by rfl) (fun K hK => ?_)
      go_simp
      have A4 := (Below.refl w3.heap.size w3).alloc (Nat.le_refl _) (.cells #[.string ⟨#[]⟩, .string ⟨#[]⟩] 50)
      have mA := mw3.below A4
      have BA := Bw3.trans (A4.mono Bw3.size)
      have yA := (A4.block w.heap.size (Array.getElem?_eq_some_iff.1 yw3).1).trans yw3
      have qA := heap_alloc_new w3 (.cells #[.string ⟨#[]⟩, .string ⟨#[]⟩] 50)
      have ltA : w.heap.size < w3.heap.size := (Array.getElem?_eq_some_iff.1 yw3).1
      clear A4 mw3 Bw3 yw3 Hw2
      generalize w3.alloc (.cells #[.string ⟨#[]⟩, .string ⟨#[]⟩] 50) = W at *
      generalize w3.heap.size = b8 at *
      try go_simp
      refine hK.out _ _ (HI.out _ mA) ?_
      clear hK K
      try simp only [Act.put, List.setIfInBounds_toArray, List.set_cons_zero, List.set_cons_succ]
      have c0 : (W).cell? ⟨b8, 0, none⟩ = some (.string ⟨#[]⟩) := by rw [cell_of_block qA]; rfl
      have c1 : (W).cell? ⟨b8, 1, none⟩ = some (.string ⟨#[]⟩) := by rw [cell_of_block qA]; rfl
      have f0 : (W).frozen? ⟨b8, 0, none⟩ = false := frozen_of_block qA
      have f1 : (W).frozen? ⟨b8, 1, none⟩ = false := frozen_of_block qA
      have HA := Lib.hid (And.intro mA (And.intro BA (And.intro yA (And.intro qA ltA))))
      clear mA BA yA qA ltA
      refine plan_do _ (by rfl) (by rfl) (fun K hK => ?_)
      go_simp
      have qB := st2_heap HA.out.2.2.2.1 (SV s1) (SV s2)
      have BB := st2_below HA.out.2.1 (Nat.le_of_lt HA.out.2.2.2.2) (SV s1) (SV s2)
      have yB := (st2_other (Nat.ne_of_lt HA.out.2.2.2.2) (SV s1) (SV s2)).trans HA.out.2.2.1
      have mB : MapOn ((W.setCell ⟨b8, 0, none⟩ (SV s1)).setCell ⟨b8, 1, none⟩ (SV s2)) pm px ps limit := HG.out.2.2.2.1.below BB
      clear c0 c1 f0 f1 HA
      generalize ((W.setCell ⟨b8, 0, none⟩ (SV s1)).setCell ⟨b8, 1, none⟩ (SV s2)) = W7 at *
      try go_simp
      refine hK.out _ _ (HI.out _ mB) ?_
      clear hK K
      try simp only [Act.put, List.setIfInBounds_toArray, List.set_cons_zero, List.set_cons_succ]
      refine plan_do _ (by rfl) (by rfl) (fun K hK => ?_)
      go_simp
      try go_simp
      refine hK.out _ _ (HI.out _ mB) ?_
      clear hK K
      try simp only [Act.put, List.setIfInBounds_toArray, List.set_cons_zero, List.set_cons_succ]
      refine plan_nil ?_
      have H7 := Lib.hid (And.intro BB (And.intro yB qB))
      clear BB yB qB mB
      clear w2 w3
    case' h4 =>
      refine plan_do _ (by rfl) (by rfl) (fun K hK => ?_)
      go_simp
      have A4 := (Below.refl w2.heap.size w2).alloc (Nat.le_refl _) (.cells #[.string ⟨#[]⟩, .string ⟨#[]⟩] 50)
      have BZ := Hw2.out.1.trans (A4.mono Hw2.out.1.size)
      have yZ := (A4.block w.heap.size (Array.getElem?_eq_some_iff.1 Hw2.out.2).1).trans Hw2.out.2
      have qZ := heap_alloc_new w2 (.cells #[.string ⟨#[]⟩, .string ⟨#[]⟩] 50)
      have mZ : MapOn (w2.alloc (.cells #[.string ⟨#[]⟩, .string ⟨#[]⟩] 50)) pm px ps limit := HG.out.2.2.2.1.below BZ
      have ltA : w.heap.size < w2.heap.size := (Array.getElem?_eq_some_iff.1 Hw2.out.2).1
      clear A4 Hw2
      generalize w2.alloc (.cells #[.string ⟨#[]⟩, .string ⟨#[]⟩] 50) = w4 at *
      generalize w2.heap.size = b8 at *
      try go_simp
      refine hK.out _ _ (HI.out _ mZ) ?_
      clear hK K
      try simp only [Act.put, List.setIfInBounds_toArray, List.set_cons_zero, List.set_cons_succ]
      have HZ := Lib.hid (And.intro BZ (And.intro yZ qZ))
      clear BZ yZ qZ mZ
      refine plan_do _ (by rfl) (by rfl) (fun K hK => ?_)
      go_simp
      refine (HG.out.2.2.1 _ HZ.out.1).mono ?_
      rintro e W ⟨rfl, hb3⟩
      have BW := HZ.out.1.trans (hb3.mono HZ.out.1.size)
      have yW := (hb3.block w.heap.size (Array.getElem?_eq_some_iff.1 HZ.out.2.1).1).trans HZ.out.2.1
      have qW := (hb3.block _ (Array.getElem?_eq_some_iff.1 HZ.out.2.2).1).trans HZ.out.2.2
      have mW : MapOn W pm px ps limit := HG.out.2.2.2.1.below BW
      clear hb3
      try go_simp
      refine hK.out _ _ (HI.out _ mW) ?_
      clear hK K
      try simp only [Act.put, List.setIfInBounds_toArray, List.set_cons_zero, List.set_cons_succ]
      have mA := mW
      have BA := BW
      have yA := yW
      have qA := qW
      clear mW BW yW qW HZ
      refine' plan_take _ (by rfl) _ (by rfl) ?_ ?_
      rotate_left
      · rintro _ ⟨x, rfl⟩
        go_simp
        try with_reducible rfl
      try simp only [Act.put, List.setIfInBounds_toArray, List.set_cons_zero, List.set_cons_succ]
      refine' plan_take _ (by rfl) _ (by rfl) ?_ ?_
      rotate_left
      · rintro _ ⟨x, rfl⟩
        go_simp
        try with_reducible rfl
      try simp only [Act.put, List.setIfInBounds_toArray, List.set_cons_zero, List.set_cons_succ]
      refine' plan_take _ (by rfl) _ (by rfl) ?_ ?_
      rotate_left
      · rintro _ ⟨x, rfl⟩
        go_simp
        try with_reducible rfl
      try simp only [Act.put, List.setIfInBounds_toArray, List.set_cons_zero, List.set_cons_succ]
      have c0 : (W).cell? ⟨b8, 0, none⟩ = some (.string ⟨#[]⟩) := by rw [cell_of_block qA]; rfl
      have c1 : (W).cell? ⟨b8, 1, none⟩ = some (.string ⟨#[]⟩) := by rw [cell_of_block qA]; rfl
      have f0 : (W).frozen? ⟨b8, 0, none⟩ = false := frozen_of_block qA
      have f1 : (W).frozen? ⟨b8, 1, none⟩ = false := frozen_of_block qA
      have HA := Lib.hid (And.intro mA (And.intro BA (And.intro yA (And.intro qA ltA))))
      clear mA BA yA qA ltA
      refine plan_do _ (by rfl) (by rfl) (fun K hK => ?_)
      go_simp
      have qB := st2_heap HA.out.2.2.2.1 (SV s1) (SV s2)
      have BB := st2_below HA.out.2.1 (Nat.le_of_lt HA.out.2.2.2.2) (SV s1) (SV s2)
      have yB := (st2_other (Nat.ne_of_lt HA.out.2.2.2.2) (SV s1) (SV s2)).trans HA.out.2.2.1
      have mB : MapOn ((W.setCell ⟨b8, 0, none⟩ (SV s1)).setCell ⟨b8, 1, none⟩ (SV s2)) pm px ps limit := HG.out.2.2.2.1.below BB
      clear c0 c1 f0 f1 HA
      generalize ((W.setCell ⟨b8, 0, none⟩ (SV s1)).setCell ⟨b8, 1, none⟩ (SV s2)) = W7 at *
      try go_simp
      refine hK.out _ _ (HI.out _ mB) ?_
      clear hK K
      try simp only [Act.put, List.setIfInBounds_toArray, List.set_cons_zero, List.set_cons_succ]
      refine plan_do _ (by rfl) (by rfl) (fun K hK => ?_)
      go_simp
      try go_simp
      refine hK.out _ _ (HI.out _ mB) ?_
      clear hK K
      try simp only [Act.put, List.setIfInBounds_toArray, List.set_cons_zero, List.set_cons_succ]
      refine plan_nil ?_
      have H7 := Lib.hid (And.intro BB (And.intro yB qB))
      clear BB yB qB mB
      clear w2 w4
  case' h2 =>
    refine plan_do _ (by rfl) (by rfl) (fun K hK => ?_)
    go_simp
    have A2 := ((Below.refl (w.alloc (.cells #[.string ⟨#[]⟩, .string ⟨#[]⟩] 50)).heap.size (w.alloc (.cells #[.string ⟨#[]⟩, .string ⟨#[]⟩] 50))).alloc (Nat.le_refl _) (.cells #[.string ⟨#[]⟩, .string ⟨#[]⟩] 50)).drew
    have BZ := HG.out.2.2.2.2.1.trans (A2.mono HG.out.2.2.2.2.1.size)
    have qZ : ((w.alloc (.cells #[.string ⟨#[]⟩, .string ⟨#[]⟩] 50)).alloc (.cells #[.string ⟨#[]⟩, .string ⟨#[]⟩] 50)).drew.heap[(w.alloc (.cells #[.string ⟨#[]⟩, .string ⟨#[]⟩] 50)).heap.size]? = _ := heap_alloc_new (w.alloc (.cells #[.string ⟨#[]⟩, .string ⟨#[]⟩] 50)) (.cells #[.string ⟨#[]⟩, .string ⟨#[]⟩] 50)
    have yZ : ((w.alloc (.cells #[.string ⟨#[]⟩, .string ⟨#[]⟩] 50)).alloc (.cells #[.string ⟨#[]⟩, .string ⟨#[]⟩] 50)).drew.heap[w.heap.size]? = _ := (A2.block w.heap.size (by simp)).trans HG.out.2.2.2.2.2
    have mZ : MapOn ((w.alloc (.cells #[.string ⟨#[]⟩, .string ⟨#[]⟩] 50)).alloc (.cells #[.string ⟨#[]⟩, .string ⟨#[]⟩] 50)).drew pm px ps limit := HG.out.2.2.2.1.below BZ
    simp only [World.size_alloc] at qZ
    clear A2
    generalize ((w.alloc (.cells #[.string ⟨#[]⟩, .string ⟨#[]⟩] 50)).alloc (.cells #[.string ⟨#[]⟩, .string ⟨#[]⟩] 50)).drew = w4 at *
    try go_simp
    refine hK.out _ _ (HI.out _ mZ) ?_
    clear hK K
    try simp only [Act.put, List.setIfInBounds_toArray, List.set_cons_zero, List.set_cons_succ]
    have HZ := Lib.hid (And.intro BZ (And.intro yZ qZ))
    clear BZ yZ qZ mZ
    refine plan_do _ (by rfl) (by rfl) (fun K hK => ?_)
    go_simp
    refine (HG.out.2.1 _ HZ.out.1).mono ?_
    rintro e w5 ⟨rfl, hb2⟩
    have B5 := HZ.out.1.trans (hb2.mono HZ.out.1.size)
    have y5 := (hb2.block w.heap.size (Array.getElem?_eq_some_iff.1 HZ.out.2.1).1).trans HZ.out.2.1
    have q5 := (hb2.block _ (Array.getElem?_eq_some_iff.1 HZ.out.2.2).1).trans HZ.out.2.2
    have m5 : MapOn w5 pm px ps limit := HG.out.2.2.2.1.below B5
    clear hb2 HZ
    try go_simp
    refine hK.out _ _ (HI.out _ m5) ?_
    clear hK K
    try simp only [Act.put, List.setIfInBounds_toArray, List.set_cons_zero, List.set_cons_succ]
    have HZ := Lib.hid (And.intro B5 (And.intro y5 q5))
    clear B5 y5 q5 m5
    refine plan_do _ (by rfl) (by rfl) (fun K hK => ?_)
    go_simp
    refine (HG.out.2.2.1 _ HZ.out.1).mono ?_
    rintro e W ⟨rfl, hb3⟩
    have BW := HZ.out.1.trans (hb3.mono HZ.out.1.size)
    have yW := (hb3.block w.heap.size (Array.getElem?_eq_some_iff.1 HZ.out.2.1).1).trans HZ.out.2.1
    have qW := (hb3.block _ (Array.getElem?_eq_some_iff.1 HZ.out.2.2).1).trans HZ.out.2.2
    have mW : MapOn W pm px ps limit := HG.out.2.2.2.1.below BW
    clear hb3
    try go_simp
    refine hK.out _ _ (HI.out _ mW) ?_
    clear hK K
    try simp only [Act.put, List.setIfInBounds_toArray, List.set_cons_zero, List.set_cons_succ]
    have mA := mW
    have BA := BW
    have yA := yW
    have qA := qW
    have ltA : w.heap.size < w.heap.size + 1 := by omega
    clear mW BW yW qW HZ
    generalize w.heap.size + 1 = b8 at *
    refine' plan_take _ (by rfl) _ (by rfl) ?_ ?_
    rotate_left
    · rintro _ ⟨x, rfl⟩
      go_simp
      try with_reducible rfl
    try simp only [Act.put, List.setIfInBounds_toArray, List.set_cons_zero, List.set_cons_succ]
    refine' plan_take _ (by rfl) _ (by rfl) ?_ ?_
    rotate_left
    · rintro _ ⟨x, rfl⟩
      go_simp
      try with_reducible rfl
    try simp only [Act.put, List.setIfInBounds_toArray, List.set_cons_zero, List.set_cons_succ]
    refine' plan_take _ (by rfl) _ (by rfl) ?_ ?_
    rotate_left
    · rintro _ ⟨x, rfl⟩
      go_simp
      try with_reducible rfl
    try simp only [Act.put, List.setIfInBounds_toArray, List.set_cons_zero, List.set_cons_succ]
    have c0 : (W).cell? ⟨b8, 0, none⟩ = some (.string ⟨#[]⟩) := by rw [cell_of_block qA]; rfl
    have c1 : (W).cell? ⟨b8, 1, none⟩ = some (.string ⟨#[]⟩) := by rw [cell_of_block qA]; rfl
    have f0 : (W).frozen? ⟨b8, 0, none⟩ = false := frozen_of_block qA
    have f1 : (W).frozen? ⟨b8, 1, none⟩ = false := frozen_of_block qA
    have HA := Lib.hid (And.intro mA (And.intro BA (And.intro yA (And.intro qA ltA))))
    clear mA BA yA qA ltA
    refine plan_do _ (by rfl) (by rfl) (fun K hK => ?_)
    go_simp
    have qB := st2_heap HA.out.2.2.2.1 (SV s1) (SV s2)
    have BB := st2_below HA.out.2.1 (Nat.le_of_lt HA.out.2.2.2.2) (SV s1) (SV s2)
    have yB := (st2_other (Nat.ne_of_lt HA.out.2.2.2.2) (SV s1) (SV s2)).trans HA.out.2.2.1
    have mB : MapOn ((W.setCell ⟨b8, 0, none⟩ (SV s1)).setCell ⟨b8, 1, none⟩ (SV s2)) pm px ps limit := HG.out.2.2.2.1.below BB
    clear c0 c1 f0 f1 HA
    generalize ((W.setCell ⟨b8, 0, none⟩ (SV s1)).setCell ⟨b8, 1, none⟩ (SV s2)) = W7 at *
    try go_simp
    refine hK.out _ _ (HI.out _ mB) ?_
    clear hK K
    try simp only [Act.put, List.setIfInBounds_toArray, List.set_cons_zero, List.set_cons_succ]
    refine plan_do _ (by rfl) (by rfl) (fun K hK => ?_)
    go_simp
    try go_simp
    refine hK.out _ _ (HI.out _ mB) ?_
    clear hK K
    try simp only [Act.put, List.setIfInBounds_toArray, List.set_cons_zero, List.set_cons_succ]
    refine plan_nil ?_
    have H7 := Lib.hid (And.intro BB (And.intro yB qB))
    clear BB yB qB mB
    clear w4 w5
  all_goals
    clear HI hI0 m0 m1 m2 I
    have y := H7.out.2.1
    have q := H7.out.2.2
    have c0 : (W7).cell? ⟨w.heap.size, 0, none⟩ = some (.string ⟨#[]⟩) := by rw [cell_of_block y]; rfl
    have c1 : (W7).cell? ⟨w.heap.size, 1, none⟩ = some (.string ⟨#[]⟩) := by rw [cell_of_block y]; rfl
    have f0 : (W7).frozen? ⟨w.heap.size, 0, none⟩ = false := frozen_of_block y
    have f1 : (W7).frozen? ⟨w.heap.size, 1, none⟩ = false := frozen_of_block y
    have d0 : (W7).cell? ⟨b8, 0, none⟩ = some (SV s1) := by rw [cell_of_block q]; rfl
    have d1 : (W7).cell? ⟨b8, 1, none⟩ = some (SV s2) := by rw [cell_of_block q]; rfl
    have q5 := st2_heap y (.string ⟨#[]⟩) (.string ⟨#[]⟩)
    have B5 := st2_below H7.out.1 (Nat.le_refl _) (.string ⟨#[]⟩) (.string ⟨#[]⟩)
    have HB := Lib.hid (And.intro q5 B5)
    clear y q q5 B5
    go_wp2_with fail
    obtain ⟨q5, B5⟩ := HB.out
    generalize ((W7.setCell ⟨w.heap.size, 0, none⟩ ((.string ⟨#[]⟩))).setCell ⟨w.heap.size, 1, none⟩ ((.string ⟨#[]⟩))) = wF at *
    have e0 : (wF).cell? ⟨w.heap.size, 0, none⟩ = some ((.string ⟨#[]⟩)) := by rw [cell_of_block q5]; rfl
    have e1 : (wF).cell? ⟨w.heap.size, 1, none⟩ = some ((.string ⟨#[]⟩)) := by rw [cell_of_block q5]; rfl
    exact bodyPost_ret (v := .tuple #[.agg #[(.string ⟨#[]⟩), (.string ⟨#[]⟩)], .int .i64 5]) (by simp [results, Tryz.f57, go_sem, e0, e1]) rfl ⟨rfl, B5⟩

end Go.Proofs.YtoaabbnieakidaaGreatDoorR
