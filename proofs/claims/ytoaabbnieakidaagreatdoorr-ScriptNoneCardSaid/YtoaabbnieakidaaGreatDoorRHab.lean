/- Scripts: Do: the walk. Scripts: Begin, Play: the walks. -/
import Derived.Test.YtoaabbnieakidaaGreatDoorRHaa
import Derived.Test.YtoaabbnieakidaaGreatDoorRGay
import Derived.Test.YtoaabbnieakidaaGreatDoorRGal
import Derived.Test.YtoaabbnieakidaaGreatDoorRGao
namespace Go.Proofs.YtoaabbnieakidaaGreatDoorR
open Go.RowKit Go.BigFrame Go.Maps Go.WideMaps Lf

/-- where the walk of Do stands when the deed is known -/
structure DoAt (P : (Nat → Prop) → World → Prop) (X : Nat → Prop) (W V : World) (d n : Int) (a b : List UInt8) (f : Nat) (b5 : Nat) : Prop where
  ex : ∃ Z : Nat → Prop, (∀ k, X k → Z k) ∧ P Z V ∧ Z (W.heap.size + 1) ∧ Keep X W V
  act : V.heap[W.heap.size]? = some (.cells #[.int .i64 d, .int .i64 n, SV a, SV b] 23)
  ans : V.heap[W.heap.size + 1]? = some (.cells #[.int .i64 0, .int .i64 0, .slice none 0 0] 35)
  deed : V.heap[b5]? = some (.cells #[.func (.func f) #[] #[]] 56)
theorem DoAt.mk' {w : World} {P : (Nat → Prop) → World → Prop} (cP : Cl w P) {X Z : Nat → Prop} {W V : World} {d n : Int} {a b : List UInt8} {f b5 : Nat} (hP : P Z ((W.alloc (.cells #[.int .i64 d, .int .i64 n, SV a, SV b] 23)).alloc (.cells #[.int .i64 0, .int .i64 0, .slice none 0 0] 35))) (hx : ∀ k, X k → Z k) (zb : Z (W.heap.size + 1)) (hb : Below (W.heap.size + 2) ((W.alloc (.cells #[.int .i64 d, .int .i64 n, SV a, SV b] 23)).alloc (.cells #[.int .i64 0, .int .i64 0, .slice none 0 0] 35)) V) (hlt : ∀ k, X k → k < W.heap.size) (hd : V.heap[b5]? = some (.cells #[.func (.func f) #[] #[]] 56)) :
    DoAt P X W V d n a b f b5 := by
  have z2 : ((W.alloc (.cells #[.int .i64 d, .int .i64 n, SV a, SV b] 23)).alloc (.cells #[.int .i64 0, .int .i64 0, .slice none 0 0] 35)).heap.size = W.heap.size + 2 := by simp
  have hb' : Below ((W.alloc (.cells #[.int .i64 d, .int .i64 n, SV a, SV b] 23)).alloc (.cells #[.int .i64 0, .int .i64 0, .slice none 0 0] 35)).heap.size ((W.alloc (.cells #[.int .i64 d, .int .i64 n, SV a, SV b] 23)).alloc (.cells #[.int .i64 0, .int .i64 0, .slice none 0 0] 35)) V := by rw [z2]; exact hb
  obtain ⟨Y, hy, -, PY⟩ := cP.grow hP hb'
  have B1 := (Below.refl W.heap.size W).alloc (Nat.le_refl _) (.cells #[.int .i64 d, .int .i64 n, SV a, SV b] 23)
  have z1 : (W.alloc (.cells #[.int .i64 d, .int .i64 n, SV a, SV b] 23)).heap.size = W.heap.size + 1 := by simp
  have A2 := (Below.refl _ (W.alloc (.cells #[.int .i64 d, .int .i64 n, SV a, SV b] 23))).alloc (Nat.le_refl _) (.cells #[.int .i64 0, .int .i64 0, .slice none 0 0] 35)
  have B2 := B1.alloc B1.size (.cells #[.int .i64 0, .int .i64 0, .slice none 0 0] 35)
  have q2 := (A2.block W.heap.size (by omega)).trans (heap_alloc_new W (.cells #[.int .i64 d, .int .i64 n, SV a, SV b] 23))
  have y2 := heap_alloc_new (W.alloc (.cells #[.int .i64 d, .int .i64 n, SV a, SV b] 23)) (.cells #[.int .i64 0, .int .i64 0, .slice none 0 0] 35)
  rw [z1] at y2
  exact ⟨⟨Y, fun k hk => hy k (hx k hk), PY, hy _ zb, (Keep.of_below B2 hlt).trans (Keep.of_below hb' fun k hk => by have := hlt k hk; omega)⟩, (hb.block _ (by omega)).trans q2, (hb.block _ (by omega)).trans y2, hd⟩

set_option maxRecDepth 100000 in
set_option maxHeartbeats 3200000 in
theorem sc_do {w W : World} {pw : Nat} {P P' : (Nat → Prop) → World → Prop} (cP : Cl w P) (cP' : Cl w P') (hno : ∀ Z V, P Z V → Calls Tryz.prog 14 #[PV pw] V fun e w' => e = .returned (.bool false) ∧ V = w') {X : Nat → Prop} (hP : P X W) (d n : Int) (a b : List UInt8) (f : Nat) (hd : 0 ≤ d ∧ d ≤ 1000) (h1 : Maps.has deedD (.int .i64 d) = true) (h2 : deedD.atKey (.int .i64 d) (.lit (.bool false)) = .lit (.int .i64 f)) (hen : ∀ (args : Array Value) (w : World), (callFunc f args).run Tryz.prog w = .ok (.enter f args) w) (x : An)
    (hf : ∀ Z V, P Z V → Calls Tryz.prog f #[PV pw, .agg #[.int .i64 d, .int .i64 n, SV a, SV b]] V fun e w' => StepQ P' Z V x e w') :
    Calls Tryz.prog 6 #[PV pw, .agg #[.int .i64 d, .int .i64 n, SV a, SV b]] W fun e w' => StepQ P' X W x e w' := by
  have B1 := (Below.refl W.heap.size W).alloc (Nat.le_refl _) (.cells #[.int .i64 d, .int .i64 n, SV a, SV b] 23)
  have z1 : (W.alloc (.cells #[.int .i64 d, .int .i64 n, SV a, SV b] 23)).heap.size = W.heap.size + 1 := by simp
  have A2 := (Below.refl _ (W.alloc (.cells #[.int .i64 d, .int .i64 n, SV a, SV b] 23))).alloc (Nat.le_refl _) (.cells #[.int .i64 0, .int .i64 0, .slice none 0 0] 35)
  have B2 := B1.alloc B1.size (.cells #[.int .i64 0, .int .i64 0, .slice none 0 0] 35)
  have q2 := (A2.block W.heap.size (by omega)).trans (heap_alloc_new W (.cells #[.int .i64 d, .int .i64 n, SV a, SV b] 23))
  have z2 : ((W.alloc (.cells #[.int .i64 d, .int .i64 n, SV a, SV b] 23)).alloc (.cells #[.int .i64 0, .int .i64 0, .slice none 0 0] 35)).heap.size = W.heap.size + 2 := by simp
  obtain ⟨Z, zx, zn, hP2⟩ := cP.grow hP B2
  have zb4 : Z (W.heap.size + 1) := zn _ (Nat.le_succ _) (by omega)
  have lw := (cP.bl hP).size
  have hlt := cP.lt hP
  have hnn := hno Z _ hP2
  have hDo := fun V b5 hb hdd => DoAt.mk' (V := V) (b5 := b5) (f := f) cP hP2 zx zb4 hb hlt hdd
  have hlk := fun V r m (h : World.ownsMap V Tryz.prog 3 deedR r m deedD) => deed_look h d f hd h1 h2
  obtain ⟨I, hIi, hIo⟩ : ∃ I : World → Prop, (∀ w', I w' → w'.heap[W.heap.size]? = some (.cells #[.int .i64 d, .int .i64 n, SV a, SV b] 23)) ∧ (∀ w', w'.heap[W.heap.size]? = some (.cells #[.int .i64 d, .int .i64 n, SV a, SV b] 23) → I w') := ⟨fun w' => w'.heap[W.heap.size]? = some (.cells #[.int .i64 d, .int .i64 n, SV a, SV b] 23), fun _ h => h, fun _ h => h⟩
  have hz0 := fun x : Keeps I => hIi _ x.ok
  have o0 : ∀ x : Keeps I, x.to.cell? ⟨W.heap.size, 0, none⟩ = some (.int .i64 d) := fun x => by rw [cell_of_block (hz0 x)]; rfl
  have o1 : ∀ x : Keeps I, x.to.cell? ⟨W.heap.size, 1, none⟩ = some (.int .i64 n) := fun x => by rw [cell_of_block (hz0 x)]; rfl
  have o2 : ∀ x : Keeps I, x.to.cell? ⟨W.heap.size, 2, none⟩ = some (SV a) := fun x => by rw [cell_of_block (hz0 x)]; rfl
  have o3 : ∀ x : Keeps I, x.to.cell? ⟨W.heap.size, 3, none⟩ = some (SV b) := fun x => by rw [cell_of_block (hz0 x)]; rfl
  have hI0 : I ((W.alloc (.cells #[.int .i64 d, .int .i64 n, SV a, SV b] 23)).alloc (.cells #[.int .i64 0, .int .i64 0, .slice none 0 0] 35)).drew := hIo _ q2
  have HI := Lib.hid hIo
  have HG := Lib.hid (And.intro hnn (And.intro hDo (And.intro hlk (And.intro q2 (And.intro hf (And.intro cP' (And.intro lw (And.intro hlt z2))))))))
  clear hnn hDo hlk q2 hf cP' lw hlt z2 zb4 zn zx hP2 B1 z1 A2 B2 hIi hIo hz0 hP hno cP hd h1 h2
  simp only [deedV] at HG
  go_enter Tryz.func6, Tryz.ntmps6
  go_wp2_with fail
  refine HG.out.1.mono ?_
  rintro e w1 ⟨rfl, rfl⟩
  go_wp2_with fail
  have hbd : Below (W.heap.size + 2) ((W.alloc (.cells #[.int .i64 d, .int .i64 n, SV a, SV b] 23)).alloc (.cells #[.int .i64 0, .int .i64 0, .slice none 0 0] 35)) ((W.alloc (.cells #[.int .i64 d, .int .i64 n, SV a, SV b] 23)).alloc (.cells #[.int .i64 0, .int .i64 0, .slice none 0 0] 35)).drew := ⟨rfl, rfl, rfl, Nat.le_refl _, fun _ _ => rfl⟩
  have zd : ((W.alloc (.cells #[.int .i64 d, .int .i64 n, SV a, SV b] 23)).alloc (.cells #[.int .i64 0, .int .i64 0, .slice none 0 0] 35)).drew.heap.size = W.heap.size + 2 := by show ((W.alloc (.cells #[.int .i64 d, .int .i64 n, SV a, SV b] 23)).alloc (.cells #[.int .i64 0, .int .i64 0, .slice none 0 0] 35)).heap.size = _; simp
  have qd : ((W.alloc (.cells #[.int .i64 d, .int .i64 n, SV a, SV b] 23)).alloc (.cells #[.int .i64 0, .int .i64 0, .slice none 0 0] 35)).drew.heap[W.heap.size]? = some (.cells #[.int .i64 d, .int .i64 n, SV a, SV b] 23) := HG.out.2.2.2.1
  have HQ0 := Lib.hid (And.intro hbd (And.intro zd qd))
  clear hbd zd qd
  refine wp_region_plan I (.take 1 (.take 2 (.two 0 7 (.two 3 7 (.take 4 (.take 5 (.take 6 (.go 7 (.go 8 (.go 9 .nil)))))) (.go 3 (.take 4 (.take 5 (.take 6 (.go 8 (.go 9 .nil))))))) (.go 0 (.go 3 (.take 4 (.take 5 (.take 6 (.go 8 (.go 9 .nil)))))))))) (by kernel_rfl) (by kernel_rfl) hI0 ?_
  clear hI0
  refine' plan_take _ (by rfl) _ (by rfl) ?_ ?_
  rotate_left
  · rintro _ ⟨x, rfl⟩
    have hxo0 := o0 x
    go_simp
    try with_reducible rfl
  try simp only [Act.put, List.setIfInBounds_toArray, List.set_cons_zero, List.set_cons_succ]
  refine' plan_take _ (by rfl) _ (by rfl) ?_ ?_
  rotate_left
  · rintro _ ⟨x, rfl⟩
    have hxo0 := o0 x
    go_simp
    try with_reducible rfl
  try simp only [Act.put, List.setIfInBounds_toArray, List.set_cons_zero, List.set_cons_succ]
  refine plan_two ?h1 ?h2
  case' h1 =>
    refine plan_do _ (by rfl) (by rfl) (fun K hK => ?_)
    go_simp
    refine (deeds_walk _).mono ?_
    rintro e w3 ⟨rfl, b3, own3⟩
    obtain ⟨hbd, zd, qd⟩ := HQ0.out
    rw [zd] at b3 own3
    rw [zd]
    have q3 := (b3.block W.heap.size (by omega)).trans qd
    have b3' := hbd.trans b3
    have l3 : W.heap.size + 2 ≤ w3.heap.size := by have := b3.size; omega
    clear hbd zd qd b3
    try go_simp
    refine hK.out _ _ (HI.out _ q3) ?_
    clear hK K
    try simp only [Act.put, List.setIfInBounds_toArray, List.set_cons_zero, List.set_cons_succ]
    have hlk3 := HG.out.2.2.1 w3 _ _ own3
    refine plan_two ?h3 ?h4
    case' h3 =>
      refine plan_do _ (by rfl) (by rfl) (fun K hK => ?_)
      go_simp
      try go_simp
      refine hK.out _ _ (HI.out _ q3) ?_
      clear hK K
      try simp only [Act.put, List.setIfInBounds_toArray, List.set_cons_zero, List.set_cons_succ]
      refine' plan_take _ (by rfl) _ (by rfl) ?_ ?_
      rotate_left
      · rintro _ ⟨x, rfl⟩
        go_simp
        try with_reducible rfl
      try simp only [Act.put, List.setIfInBounds_toArray, List.set_cons_zero, List.set_cons_succ]
      refine' plan_take _ (by rfl) _ (by rfl) ?_ ?_
      rotate_left
      · rintro _ ⟨x, rfl⟩
        go_simp
        try with_reducible rfl
      try simp only [Act.put, List.setIfInBounds_toArray, List.set_cons_zero, List.set_cons_succ]
      refine' plan_take _ (by rfl) _ (by rfl) ?_ ?_
      rotate_left
      · rintro _ ⟨x, rfl⟩
        go_simp
        try with_reducible rfl
      try simp only [Act.put, List.setIfInBounds_toArray, List.set_cons_zero, List.set_cons_succ]
      refine plan_do _ (by rfl) (by rfl) (fun K hK => ?_)
      go_simp
      have A4 := (Below.refl w3.heap.size w3).alloc (Nat.le_refl _) (.cells #[.nilFunc] 56)
      have q4 := (A4.block _ (Array.getElem?_eq_some_iff.1 q3).1).trans q3
      have y4 := heap_alloc_new w3 (.cells #[.nilFunc] 56)
      have b4 := b3'.alloc l3 (.cells #[.nilFunc] 56)
      have lb5 : W.heap.size < w3.heap.size := by omega
      have lb5' := l3
      clear A4 own3 hlk3 q3 b3' l3
      generalize w3.alloc (.cells #[.nilFunc] 56) = W5 at *
      generalize w3.heap.size = b5 at *
      clear w3
      try go_simp
      refine hK.out _ _ (HI.out _ q4) ?_
      clear hK K
      try simp only [Act.put, List.setIfInBounds_toArray, List.set_cons_zero, List.set_cons_succ]
      have c0 : (W5).cell? ⟨b5, 0, none⟩ = some (.nilFunc) := by rw [cell_of_block y4]; rfl
      have f0 : (W5).frozen? ⟨b5, 0, none⟩ = false := frozen_of_block y4
      have y5 : (W5.setCell ⟨b5, 0, none⟩ (.func (.func f) #[] #[])).heap[b5]? = some (.cells #[.func (.func f) #[] #[]] 56) := by
        have := heap_setCell (i := 0) (v := .func (.func f) #[] #[]) y4
        simpa using this
      have q5 : (W5.setCell ⟨b5, 0, none⟩ (.func (.func f) #[] #[])).heap[W.heap.size]? = some (.cells #[.int .i64 d, .int .i64 n, SV a, SV b] 23) := (heap_setCell_ne (Nat.ne_of_lt lb5)).trans q4
      have bV := b4.setCell (p := ⟨b5, 0, none⟩) lb5' (.func (.func f) #[] #[])
      clear y4 q4 b4 lb5 lb5'
      refine plan_do _ (by rfl) (by rfl) (fun K hK => ?_)
      go_simp
      clear c0 f0
      generalize hV : (W5.setCell ⟨b5, 0, none⟩ (.func (.func f) #[] #[])) = V at *
      try go_simp
      refine hK.out _ _ (HI.out _ q5) ?_
      clear hK K
      try simp only [Act.put, List.setIfInBounds_toArray, List.set_cons_zero, List.set_cons_succ]
      refine plan_do _ (by rfl) (by rfl) (fun K hK => ?_)
      go_simp
      try go_simp
      refine hK.out _ _ (HI.out _ q5) ?_
      clear hK K
      try simp only [Act.put, List.setIfInBounds_toArray, List.set_cons_zero, List.set_cons_succ]
      refine plan_nil ?_
      have HJ := Lib.hid (HG.out.2.1 V b5 bV y5)
      clear q5 bV y5 hV W5
    case' h4 =>
      refine plan_do _ (by rfl) (by rfl) (fun K hK => ?_)
      go_simp
      have A4 := (Below.refl w3.heap.size w3).alloc (Nat.le_refl _) (.cells #[.nilFunc] 56)
      have q4 := (A4.block _ (Array.getElem?_eq_some_iff.1 q3).1).trans q3
      have y4 := heap_alloc_new w3 (.cells #[.nilFunc] 56)
      have b4 := b3'.alloc l3 (.cells #[.nilFunc] 56)
      have lb5 : W.heap.size < w3.heap.size := by omega
      have lb5' := l3
      have hlk5 := HG.out.2.2.1 _ _ _ (own3.alloc (.cells #[.nilFunc] 56))
      clear A4 own3 hlk3 q3 b3' l3
      generalize w3.alloc (.cells #[.nilFunc] 56) = W5 at *
      generalize w3.heap.size = b5 at *
      clear w3
      try go_simp
      refine hK.out _ _ (HI.out _ q4) ?_
      clear hK K
      try simp only [Act.put, List.setIfInBounds_toArray, List.set_cons_zero, List.set_cons_succ]
      refine plan_do _ (by rfl) (by rfl) (fun K hK => ?_)
      go_simp
      try go_simp
      refine hK.out _ _ (HI.out _ q4) ?_
      clear hK K
      try simp only [Act.put, List.setIfInBounds_toArray, List.set_cons_zero, List.set_cons_succ]
      clear hlk5
      refine' plan_take _ (by rfl) _ (by rfl) ?_ ?_
      rotate_left
      · rintro _ ⟨x, rfl⟩
        go_simp
        try with_reducible rfl
      try simp only [Act.put, List.setIfInBounds_toArray, List.set_cons_zero, List.set_cons_succ]
      refine' plan_take _ (by rfl) _ (by rfl) ?_ ?_
      rotate_left
      · rintro _ ⟨x, rfl⟩
        go_simp
        try with_reducible rfl
      try simp only [Act.put, List.setIfInBounds_toArray, List.set_cons_zero, List.set_cons_succ]
      refine' plan_take _ (by rfl) _ (by rfl) ?_ ?_
      rotate_left
      · rintro _ ⟨x, rfl⟩
        go_simp
        try with_reducible rfl
      try simp only [Act.put, List.setIfInBounds_toArray, List.set_cons_zero, List.set_cons_succ]
      have c0 : (W5).cell? ⟨b5, 0, none⟩ = some (.nilFunc) := by rw [cell_of_block y4]; rfl
      have f0 : (W5).frozen? ⟨b5, 0, none⟩ = false := frozen_of_block y4
      have y5 : (W5.setCell ⟨b5, 0, none⟩ (.func (.func f) #[] #[])).heap[b5]? = some (.cells #[.func (.func f) #[] #[]] 56) := by
        have := heap_setCell (i := 0) (v := .func (.func f) #[] #[]) y4
        simpa using this
      have q5 : (W5.setCell ⟨b5, 0, none⟩ (.func (.func f) #[] #[])).heap[W.heap.size]? = some (.cells #[.int .i64 d, .int .i64 n, SV a, SV b] 23) := (heap_setCell_ne (Nat.ne_of_lt lb5)).trans q4
      have bV := b4.setCell (p := ⟨b5, 0, none⟩) lb5' (.func (.func f) #[] #[])
      clear y4 q4 b4 lb5 lb5'
      refine plan_do _ (by rfl) (by rfl) (fun K hK => ?_)
      go_simp
      clear c0 f0
      generalize hV : (W5.setCell ⟨b5, 0, none⟩ (.func (.func f) #[] #[])) = V at *
      try go_simp
      refine hK.out _ _ (HI.out _ q5) ?_
      clear hK K
      try simp only [Act.put, List.setIfInBounds_toArray, List.set_cons_zero, List.set_cons_succ]
      refine plan_do _ (by rfl) (by rfl) (fun K hK => ?_)
      go_simp
      try go_simp
      refine hK.out _ _ (HI.out _ q5) ?_
      clear hK K
      try simp only [Act.put, List.setIfInBounds_toArray, List.set_cons_zero, List.set_cons_succ]
      refine plan_nil ?_
      have HJ := Lib.hid (HG.out.2.1 V b5 bV y5)
      clear q5 bV y5 hV W5
  case' h2 =>
    refine plan_do _ (by rfl) (by rfl) (fun K hK => ?_)
    go_simp
    obtain ⟨hbd, zd, qd⟩ := HQ0.out
    have zd2 : ((W.alloc (.cells #[.int .i64 d, .int .i64 n, SV a, SV b] 23)).alloc (.cells #[.int .i64 0, .int .i64 0, .slice none 0 0] 35)).heap.size = W.heap.size + 2 := zd
    have A3 : Below ((W.alloc (.cells #[.int .i64 d, .int .i64 n, SV a, SV b] 23)).alloc (.cells #[.int .i64 0, .int .i64 0, .slice none 0 0] 35)).heap.size ((W.alloc (.cells #[.int .i64 d, .int .i64 n, SV a, SV b] 23)).alloc (.cells #[.int .i64 0, .int .i64 0, .slice none 0 0] 35)) (((W.alloc (.cells #[.int .i64 d, .int .i64 n, SV a, SV b] 23)).alloc (.cells #[.int .i64 0, .int .i64 0, .slice none 0 0] 35)).alloc (.cells #[.nilFunc] 56)).drew := ((Below.refl _ ((W.alloc (.cells #[.int .i64 d, .int .i64 n, SV a, SV b] 23)).alloc (.cells #[.int .i64 0, .int .i64 0, .slice none 0 0] 35))).alloc (Nat.le_refl _) (.cells #[.nilFunc] 56)).drew
    have q3 := (A3.block W.heap.size (by rw [zd2]; omega)).trans (show ((W.alloc (.cells #[.int .i64 d, .int .i64 n, SV a, SV b] 23)).alloc (.cells #[.int .i64 0, .int .i64 0, .slice none 0 0] 35)).heap[W.heap.size]? = some (.cells #[.int .i64 d, .int .i64 n, SV a, SV b] 23) from qd)
    have y3 : (((W.alloc (.cells #[.int .i64 d, .int .i64 n, SV a, SV b] 23)).alloc (.cells #[.int .i64 0, .int .i64 0, .slice none 0 0] 35)).alloc (.cells #[.nilFunc] 56)).drew.heap[((W.alloc (.cells #[.int .i64 d, .int .i64 n, SV a, SV b] 23)).alloc (.cells #[.int .i64 0, .int .i64 0, .slice none 0 0] 35)).heap.size]? = _ := heap_alloc_new ((W.alloc (.cells #[.int .i64 d, .int .i64 n, SV a, SV b] 23)).alloc (.cells #[.int .i64 0, .int .i64 0, .slice none 0 0] 35)) (.cells #[.nilFunc] 56)
    have b3 : Below (W.heap.size + 2) ((W.alloc (.cells #[.int .i64 d, .int .i64 n, SV a, SV b] 23)).alloc (.cells #[.int .i64 0, .int .i64 0, .slice none 0 0] 35)) (((W.alloc (.cells #[.int .i64 d, .int .i64 n, SV a, SV b] 23)).alloc (.cells #[.int .i64 0, .int .i64 0, .slice none 0 0] 35)).alloc (.cells #[.nilFunc] 56)).drew := by rw [← zd2]; exact A3
    have z3 : (((W.alloc (.cells #[.int .i64 d, .int .i64 n, SV a, SV b] 23)).alloc (.cells #[.int .i64 0, .int .i64 0, .slice none 0 0] 35)).alloc (.cells #[.nilFunc] 56)).drew.heap.size = W.heap.size + 3 := by show (((W.alloc (.cells #[.int .i64 d, .int .i64 n, SV a, SV b] 23)).alloc (.cells #[.int .i64 0, .int .i64 0, .slice none 0 0] 35)).alloc (.cells #[.nilFunc] 56)).heap.size = _; rw [World.size_alloc, zd2]
    rw [zd2] at y3
    clear hbd qd A3 zd zd2
    generalize (((W.alloc (.cells #[.int .i64 d, .int .i64 n, SV a, SV b] 23)).alloc (.cells #[.int .i64 0, .int .i64 0, .slice none 0 0] 35)).alloc (.cells #[.nilFunc] 56)).drew = w3 at *
    try go_simp
    refine hK.out _ _ (HI.out _ q3) ?_
    clear hK K
    try simp only [Act.put, List.setIfInBounds_toArray, List.set_cons_zero, List.set_cons_succ]
    refine plan_do _ (by rfl) (by rfl) (fun K hK => ?_)
    go_simp
    refine (deeds_walk _).mono ?_
    rintro e W5 ⟨rfl, b5', own5⟩
    rw [z3] at b5' own5
    rw [z3]
    have hlk5 := HG.out.2.2.1 _ _ _ own5
    have q4 := (b5'.block W.heap.size (by omega)).trans q3
    have y4 : W5.heap[W.heap.size + 1 + 1]? = _ := (b5'.block (W.heap.size + 2) (by omega)).trans y3
    have b4 := b3.trans (b5'.mono (by omega))
    have lb5 : W.heap.size < W.heap.size + 1 + 1 := by omega
    have lb5' : W.heap.size + 2 ≤ W.heap.size + 1 + 1 := Nat.le_refl _
    clear b5' own5 q3 y3 b3 z3 w3
    try go_simp
    refine hK.out _ _ (HI.out _ q4) ?_
    clear hK K
    try simp only [Act.put, List.setIfInBounds_toArray, List.set_cons_zero, List.set_cons_succ]
    refine plan_do _ (by rfl) (by rfl) (fun K hK => ?_)
    go_simp
    try go_simp
    refine hK.out _ _ (HI.out _ q4) ?_
    clear hK K
    try simp only [Act.put, List.setIfInBounds_toArray, List.set_cons_zero, List.set_cons_succ]
    clear hlk5
    refine' plan_take _ (by rfl) _ (by rfl) ?_ ?_
    rotate_left
    · rintro _ ⟨x, rfl⟩
      go_simp
      try with_reducible rfl
    try simp only [Act.put, List.setIfInBounds_toArray, List.set_cons_zero, List.set_cons_succ]
    refine' plan_take _ (by rfl) _ (by rfl) ?_ ?_
    rotate_left
    · rintro _ ⟨x, rfl⟩
      go_simp
      try with_reducible rfl
    try simp only [Act.put, List.setIfInBounds_toArray, List.set_cons_zero, List.set_cons_succ]
    refine' plan_take _ (by rfl) _ (by rfl) ?_ ?_
    rotate_left
    · rintro _ ⟨x, rfl⟩
      go_simp
      try with_reducible rfl
    try simp only [Act.put, List.setIfInBounds_toArray, List.set_cons_zero, List.set_cons_succ]
    generalize W.heap.size + 1 + 1 = b5 at *
    have c0 : (W5).cell? ⟨b5, 0, none⟩ = some (.nilFunc) := by rw [cell_of_block y4]; rfl
    have f0 : (W5).frozen? ⟨b5, 0, none⟩ = false := frozen_of_block y4
    have y5 : (W5.setCell ⟨b5, 0, none⟩ (.func (.func f) #[] #[])).heap[b5]? = some (.cells #[.func (.func f) #[] #[]] 56) := by
      have := heap_setCell (i := 0) (v := .func (.func f) #[] #[]) y4
      simpa using this
    have q5 : (W5.setCell ⟨b5, 0, none⟩ (.func (.func f) #[] #[])).heap[W.heap.size]? = some (.cells #[.int .i64 d, .int .i64 n, SV a, SV b] 23) := (heap_setCell_ne (Nat.ne_of_lt lb5)).trans q4
    have bV := b4.setCell (p := ⟨b5, 0, none⟩) lb5' (.func (.func f) #[] #[])
    clear y4 q4 b4 lb5 lb5'
    refine plan_do _ (by rfl) (by rfl) (fun K hK => ?_)
    go_simp
    clear c0 f0
    generalize hV : (W5.setCell ⟨b5, 0, none⟩ (.func (.func f) #[] #[])) = V at *
    try go_simp
    refine hK.out _ _ (HI.out _ q5) ?_
    clear hK K
    try simp only [Act.put, List.setIfInBounds_toArray, List.set_cons_zero, List.set_cons_succ]
    refine plan_do _ (by rfl) (by rfl) (fun K hK => ?_)
    go_simp
    try go_simp
    refine hK.out _ _ (HI.out _ q5) ?_
    clear hK K
    try simp only [Act.put, List.setIfInBounds_toArray, List.set_cons_zero, List.set_cons_succ]
    refine plan_nil ?_
    have HJ := Lib.hid (HG.out.2.1 V b5 bV y5)
    clear q5 bV y5 hV W5
  all_goals
    clear o0 o1 o2 o3 HI I HQ0
    obtain ⟨⟨Y, hy, PY, yb4, KY⟩, qa, qz, qd⟩ := HJ.out
    have g0 : (V).cell? ⟨b5, 0, none⟩ = some (.func (.func f) #[] #[]) := by rw [cell_of_block qd]; rfl
    have c0 : (V).cell? ⟨W.heap.size, 0, none⟩ = some (.int .i64 d) := by rw [cell_of_block qa]; rfl
    have c1 : (V).cell? ⟨W.heap.size, 1, none⟩ = some (.int .i64 n) := by rw [cell_of_block qa]; rfl
    have c2 : (V).cell? ⟨W.heap.size, 2, none⟩ = some (SV a) := by rw [cell_of_block qa]; rfl
    have c3 : (V).cell? ⟨W.heap.size, 3, none⟩ = some (SV b) := by rw [cell_of_block qa]; rfl
    have hf := HG.out.2.2.2.2.1 Y V PY
    have HT := Lib.hid (And.intro hf (And.intro hy (And.intro yb4 (And.intro KY qz))))
    clear hf hy yb4 KY qz PY qa qd HJ
    go_wp2_with fail
    refine HT.out.1.mono ?_
    rintro e w8 ⟨u, Z8, rfl, z8, row, P8, K8⟩
    obtain ⟨-, hy, yb4, KY, qz⟩ := HT.out
    obtain ⟨-, -, -, -, -, cP', lw, hlt, -⟩ := HG.out
    have y8 := (K8.block _ yb4).trans qz
    have ans := cP'.answer P8 (z8 _ yb4) (by omega) y8 (KY.trans (K8.mono hy)) (fun k hk => by have := hlt k hk; omega) (.int .i64 x.e) (.int .i64 x.n) u
    have row' := row.answer y8 (.int .i64 x.e) (.int .i64 x.n) u
    obtain ⟨A, m, hu⟩ : ∃ A m, u = .slice A x.l.length m := by obtain ⟨⟨A, c, h, -⟩, -⟩ := row; exact ⟨A, c, h⟩
    subst hu
    have HB := Lib.hid (And.intro ans (And.intro (row'.wide fun b hb => And.intro hb.1 (Nat.le_trans KY.size hb.2)) fun k hk => z8 k (hy k hk)))
    have r0 : (w8).frozen? ⟨(W.heap.size + 1), 0, none⟩ = false := frozen_of_block y8
    have r1 : (w8).frozen? ⟨(W.heap.size + 1), 1, none⟩ = false := frozen_of_block y8
    have r2 : (w8).frozen? ⟨(W.heap.size + 1), 2, none⟩ = false := frozen_of_block y8
    have k0 : (w8).cell? ⟨(W.heap.size + 1), 0, none⟩ = some (.int .i64 0) := by rw [cell_of_block y8]; rfl
    have k1 : (w8).cell? ⟨(W.heap.size + 1), 1, none⟩ = some (.int .i64 0) := by rw [cell_of_block y8]; rfl
    have k2 : (w8).cell? ⟨(W.heap.size + 1), 2, none⟩ = some (.slice none 0 0) := by rw [cell_of_block y8]; rfl
    clear ans row row' y8 hy yb4 KY qz cP' lw hlt K8 P8 z8 HT HG g0 c0 c1 c2 c3
    go_wp2_with fail
    obtain ⟨⟨P9, K9, q9⟩, row9, z9⟩ := HB.out
    generalize (((w8.setCell ⟨(W.heap.size + 1), 0, none⟩ (.int .i64 x.e)).setCell ⟨(W.heap.size + 1), 1, none⟩ (.int .i64 x.n)).setCell ⟨(W.heap.size + 1), 2, none⟩ (.slice A x.l.length m)) = w9 at *
    have e0 : (w9).cell? ⟨(W.heap.size + 1), 0, none⟩ = some (.int .i64 x.e) := by rw [cell_of_block q9]; rfl
    have e1 : (w9).cell? ⟨(W.heap.size + 1), 1, none⟩ = some (.int .i64 x.n) := by rw [cell_of_block q9]; rfl
    have e2 : (w9).cell? ⟨(W.heap.size + 1), 2, none⟩ = some (.slice A x.l.length m) := by rw [cell_of_block q9]; rfl
    exact bodyPost_ret (v := .agg #[.int .i64 x.e, .int .i64 x.n, .slice A x.l.length m]) (by simp [results, Tryz.f6, go_sem, e0, e1, e2]) rfl ⟨_, Z8, rfl, z9, row9, P9, K9⟩
end Go.Proofs.YtoaabbnieakidaaGreatDoorR

namespace Go.Proofs.YtoaabbnieakidaaGreatDoorR
open Go.RowKit Go.BigFrame Go.Maps Go.WideMaps Lf

/-- a row of the caller's own turns, and new blocks are made -/
theorem Cl.turn {w : World} {P : (Nat → Prop) → World → Prop} (cP : Cl w P) {X : Nat → Prop} {W W1 : World} {row : Option Nat} (hP : P X W) (hg : W.grownBy W1 row) (hr : ∀ g, row = some g → X g ∧ w.heap.size ≤ g ∧ ∃ cs t fr, W.heap[g]? = some (.cells cs t fr) ∧ t ≠ 121 ∧ t ≠ 206) :
    ∃ Z : Nat → Prop, (∀ k, X k → Z k) ∧ (∀ k, W.heap.size ≤ k → k < W1.heap.size → Z k) ∧ P Z W1 := by
  cases row with
  | none => exact cP.grow hP ⟨hg.os, hg.tape, hg.output, hg.size, fun k hk => hg.block k hk (by simp)⟩
  | some g =>
    obtain ⟨xg, lg, cs, t, fr, hb, ht⟩ := hr g rfl
    have hgl : g < W.heap.size := (Array.getElem?_eq_some_iff.1 hb).1
    have hgl1 : g < W1.heap.size := Nat.lt_of_lt_of_le hgl hg.size
    obtain ⟨V, hV⟩ : ∃ V : World, { W1 with heap := W1.heap.setIfInBounds g (.cells cs t fr) } = V := ⟨_, rfl⟩
    have v1 : V.heap[g]? = some (.cells cs t fr) := by rw [← hV]; simp [hgl1]
    have v2 : ∀ k, k ≠ g → V.heap[k]? = W1.heap[k]? := fun k hk => by
      rw [← hV]
      show (W1.heap.setIfInBounds g _)[k]? = _
      rw [Array.getElem?_setIfInBounds_ne (fun e => hk e.symm)]
    have v3 : V.heap.size = W1.heap.size := by rw [← hV]; simp
    have v4 : V.os = W1.os ∧ V.tape = W1.tape ∧ V.output = W1.output := by rw [← hV]; exact ⟨rfl, rfl, rfl⟩
    have hB : Below W.heap.size W V := ⟨v4.1.trans hg.os, v4.2.1.trans hg.tape, v4.2.2.trans hg.output, by rw [v3]; exact hg.size, fun k hk => by
      by_cases e : k = g
      · rw [e, v1, hb]
      · rw [v2 k e]; exact hg.block k hk (by simp; exact e)⟩
    obtain ⟨Z, zx, zn, PZ⟩ := cP.grow hP hB
    refine ⟨Z, zx, fun k h1 h2 => zn k h1 (by rw [v3]; exact h2), ?_⟩
    exact cP.write PZ (zx g xg) lg v1 ht (by rw [v3]; exact Nat.le_refl _) (fun k _ hk => (v2 k hk).symm) ⟨v4.1.symm, v4.2.1.symm, v4.2.2.symm⟩

/-- a row of answers' cells -/
def Lay (X : Nat → Prop) (W : World) : List An → List Value → Prop
  | [], cs => cs = []
  | x :: l, cs => ∃ u r, cs = .int .i64 x.e :: .int .i64 x.n :: u :: r ∧ PRowX X W u x.l ∧ Lay X W l r
theorem Lay.snoc {X : Nat → Prop} {W : World} {x : An} {u : Value} (hu : PRowX X W u x.l) : ∀ {l : List An} {cs : List Value}, Lay X W l cs → Lay X W (l ++ [x]) (cs ++ [.int .i64 x.e, .int .i64 x.n, u])
  | [], cs, h => by
    have e : cs = [] := h
    rw [e]
    exact ⟨u, [], rfl, hu, rfl⟩
  | y :: l, cs, h => by
    obtain ⟨v, r, rfl, h1, h2⟩ := h
    exact ⟨v, r ++ [.int .i64 x.e, .int .i64 x.n, u], rfl, h1, Lay.snoc hu h2⟩
theorem Lay.mono {X Z : Nat → Prop} {W V : World} (hf : ∀ u l, PRowX X W u l → PRowX Z V u l) : ∀ {l : List An} {cs : List Value}, Lay X W l cs → Lay Z V l cs
  | [], _, h => h
  | _ :: _, _, h => by
    obtain ⟨v, r, rfl, h1, h2⟩ := h
    exact ⟨v, r, rfl, hf _ _ h1, Lay.mono hf h2⟩
theorem Lay.at {X : Nat → Prop} {W : World} : ∀ {l : List An} {cs : List Value}, Lay X W l cs → ∀ (i : Nat) (hi : i < l.length), ∃ u, cs[i * 3]? = some (.int .i64 l[i].e) ∧ cs[i * 3 + 1]? = some (.int .i64 l[i].n) ∧ cs[i * 3 + 2]? = some u ∧ PRowX X W u l[i].l
  | [], _, _, i, hi => absurd hi (by simp)
  | x :: l, cs, h, i, hi => by
    obtain ⟨v, r, rfl, h1, h2⟩ := h
    cases i with
    | zero => exact ⟨v, rfl, rfl, rfl, h1⟩
    | succ i =>
      obtain ⟨u, g1, g2, g3, g4⟩ := Lay.at h2 i (by simpa using hi)
      refine ⟨u, ?_, ?_, ?_, g4⟩
      · rw [show (i + 1) * 3 = i * 3 + 1 + 1 + 1 by omega]; simpa using g1
      · rw [show (i + 1) * 3 + 1 = (i * 3 + 1) + 1 + 1 + 1 by omega]; simpa using g2
      · rw [show (i + 1) * 3 + 2 = (i * 3 + 2) + 1 + 1 + 1 by omega]; simpa using g3
theorem ARow.of_lay {X : Nat → Prop} {W : World} {base : Nat} {v : Value} {l : List An} {cs : List Value} (h : W.ownsRow base 35 3 v l.length cs) (hl : Lay X W l cs) : ARow W v l := by
  rcases h.2 with ⟨rfl, hx⟩ | ⟨g, cap, cur, hv, hb, hg, h1, h2, h3, h4⟩
  · exact ⟨none, 0, by rw [hx], fun i hi => by omega⟩
  · refine ⟨_, cap, hv, fun i hi => ?_⟩
    obtain ⟨u, g1, g2, g3, g4⟩ := hl.at i hi
    have key : ∀ j y, j < l.length * 3 → cs[j]? = some y → W.cell? ⟨g, 0 + j, none⟩ = some y := fun j y hj hy => by
      rw [Nat.zero_add, cell_of_block hg]
      have : (cur.toList.take (l.length * 3))[j]? = cs[j]? := by rw [h4]
      rw [List.getElem?_take_of_lt hj, Array.getElem?_toList] at this
      rw [this, hy]
    exact ⟨g, 0, u, rfl, key _ _ (by omega) g1, key _ _ (by omega) g2, key _ _ (by omega) g3, g4.1⟩
theorem ownsRow_keep {w w' : World} {base size n : Nat} {e : TypeId} {v : Value} {xs : List Value} (h : w.ownsRow base e size v n xs) (hk : ∀ g, v.ownBlock = some g → w'.heap[g]? = w.heap[g]?) : w'.ownsRow base e size v n xs := by
  obtain ⟨h0, h⟩ := h
  refine ⟨h0, h.imp id ?_⟩
  rintro ⟨g, cap, cur, rfl, hb, hg, h⟩
  exact ⟨g, cap, cur, rfl, hb, (hk g rfl).trans hg, h⟩

/-- an act -/
structure Ac where
  d : Nat
  n : Nat
  a : List UInt8
  b : List UInt8
/-- a row of acts in memory -/
def AcRow (w : World) (v : Value) (l : List Ac) : Prop := ∃ g c, v = .slice (some ⟨g, 0, none⟩) l.length c ∧ ∀ (i : Nat) (h : i < l.length), w.cell? ⟨g, i * 4, none⟩ = some (.int .i64 l[i].d) ∧ w.cell? ⟨g, i * 4 + 1, none⟩ = some (.int .i64 l[i].n) ∧ w.cell? ⟨g, i * 4 + 2, none⟩ = some (SV l[i].a) ∧ w.cell? ⟨g, i * 4 + 3, none⟩ = some (SV l[i].b)

theorem infoAns : (Tryz.prog.info? 35).map (fun i => (i.zero, i.size, i.bytes)) = some (some (.agg #[.int .i64 0, .int .i64 0, .slice none 0 0]), 3, 40) := by kernel_rfl
theorem cell_three_new (w : World) (a b c : Value) (t : TypeId) : ∀ j u, [a, b, c][j]? = some u → (w.alloc (.cells #[a, b, c] t)).cell? ((⟨w.heap.size, 0, none⟩ : Addr).add j) = some u := by
  intro j u hj
  have hadd : (⟨w.heap.size, 0, none⟩ : Addr).add j = ⟨w.heap.size, j, none⟩ := by unfold Addr.add; split <;> simp_all
  rw [hadd, cell_of_block (heap_alloc_new w _)]
  simpa using hj

def sk0 : St := ⟨⟨64000, []⟩, ⟨1000, 9, []⟩⟩
theorem sk_inv0 : Inv sk0 := ⟨fun i hi => absurd hi (by simp [sk0]), fun i j hi => absurd hi (by simp [sk0])⟩

set_option maxRecDepth 100000 in
set_option maxHeartbeats 1600000 in
theorem begin_walk {w W0 : World} (hb : Below w.heap.size w W0) (ht : Tab64 w) :
    Calls Tryz.prog 17 #[.agg #[.int .i64 1, .int .i64 2, .int .i64 9, .int .i64 64000, .int .i64 1000, .int .u32 9]] W0 fun e w' => ∃ pw, e = .returned (.tuple #[PV pw, .int .i64 0]) ∧ ScM w pw 9 sk0 0 (fun k => k < W0.heap.size) w' := by
  have A0 := (Below.refl W0.heap.size W0).alloc (Nat.le_refl _) (.cells #[.int .i64 1, .int .i64 2, .int .i64 9, .int .i64 64000, .int .i64 1000, .int .u32 9] 46)
  have q0 := heap_alloc_new W0 (.cells #[.int .i64 1, .int .i64 2, .int .i64 9, .int .i64 64000, .int .i64 1000, .int .u32 9] 46)
  have ht0 : Tab64 W0 := ht.of_block (hb.block _ ht.lt)
  have hsn := store_new (ht0.of_block (A0.block _ ht0.lt)) 64000 1000 9 (by omega) (by omega) (by omega)
  have hmn := fun V ps Y (hV : StOn V ps sk0 Y) => map_new hV sk_inv0 kind_avl 2 9 (by omega)
  have c0 : ((W0.alloc (.cells #[.int .i64 1, .int .i64 2, .int .i64 9, .int .i64 64000, .int .i64 1000, .int .u32 9] 46))).cell? ⟨W0.heap.size, 0, none⟩ = some (.int .i64 1) := by rw [cell_of_block q0]; rfl
  have c1 : ((W0.alloc (.cells #[.int .i64 1, .int .i64 2, .int .i64 9, .int .i64 64000, .int .i64 1000, .int .u32 9] 46))).cell? ⟨W0.heap.size, 1, none⟩ = some (.int .i64 2) := by rw [cell_of_block q0]; rfl
  have c2 : ((W0.alloc (.cells #[.int .i64 1, .int .i64 2, .int .i64 9, .int .i64 64000, .int .i64 1000, .int .u32 9] 46))).cell? ⟨W0.heap.size, 2, none⟩ = some (.int .i64 9) := by rw [cell_of_block q0]; rfl
  have c3 : ((W0.alloc (.cells #[.int .i64 1, .int .i64 2, .int .i64 9, .int .i64 64000, .int .i64 1000, .int .u32 9] 46))).cell? ⟨W0.heap.size, 3, none⟩ = some (.int .i64 64000) := by rw [cell_of_block q0]; rfl
  have c4 : ((W0.alloc (.cells #[.int .i64 1, .int .i64 2, .int .i64 9, .int .i64 64000, .int .i64 1000, .int .u32 9] 46))).cell? ⟨W0.heap.size, 4, none⟩ = some (.int .i64 1000) := by rw [cell_of_block q0]; rfl
  have c5 : ((W0.alloc (.cells #[.int .i64 1, .int .i64 2, .int .i64 9, .int .i64 64000, .int .i64 1000, .int .u32 9] 46))).cell? ⟨W0.heap.size, 5, none⟩ = some (.int .u32 9) := by rw [cell_of_block q0]; rfl
  have HG := Lib.hid (And.intro hsn (And.intro hmn (And.intro A0 (And.intro q0 hb))))
  clear hsn hmn A0 q0 ht ht0 hb
  go_enter Tryz.func17, Tryz.ntmps17
  go_wp2_with fail
  refine HG.out.1.mono ?_
  rintro e w1 ⟨ps, rfl, hs1, hb1⟩
  have q1 := (hb1.block W0.heap.size (by simp)).trans HG.out.2.2.2.1
  have d0 : (w1).cell? ⟨W0.heap.size, 0, none⟩ = some (.int .i64 1) := by rw [cell_of_block q1]; rfl
  have d1 : (w1).cell? ⟨W0.heap.size, 1, none⟩ = some (.int .i64 2) := by rw [cell_of_block q1]; rfl
  have d2 : (w1).cell? ⟨W0.heap.size, 2, none⟩ = some (.int .i64 9) := by rw [cell_of_block q1]; rfl
  have d3 : (w1).cell? ⟨W0.heap.size, 3, none⟩ = some (.int .i64 64000) := by rw [cell_of_block q1]; rfl
  have d4 : (w1).cell? ⟨W0.heap.size, 4, none⟩ = some (.int .i64 1000) := by rw [cell_of_block q1]; rfl
  have d5 : (w1).cell? ⟨W0.heap.size, 5, none⟩ = some (.int .u32 9) := by rw [cell_of_block q1]; rfl
  have H1 := Lib.hid (And.intro hs1 (And.intro hb1 q1))
  clear hs1 hb1 q1 c0 c1 c2 c3 c4 c5
  go_wp2_with fail
  refine (HG.out.2.1 _ _ _ H1.out.1).mono ?_
  rintro e w2 ⟨pm, px, rfl, hM, hT, hb2, lm, lx, ne⟩
  have A3 := (Below.refl w2.heap.size w2).alloc (Nat.le_refl _) (.cells #[PV pm, .pointer none, .pointer none, .pointer none, .pointer none] 30)
  have q3 := heap_alloc_new w2 (.cells #[PV pm, .pointer none, .pointer none, .pointer none, .pointer none] 30)
  have z1 := H1.out.2.1.size
  simp only [World.size_alloc] at z1
  have z2 := hb2.size
  have lT := (Array.getElem?_eq_some_iff.1 hT).1
  have lM := (Array.getElem?_eq_some_iff.1 hM).1
  have s2 := H1.out.1.wide hb2
  have s3 := s2.wide A3
  have B2 : Below w.heap.size w w2 := (HG.out.2.2.2.2.trans ((HG.out.2.2.1.trans (H1.out.2.1.mono (by simp))).mono HG.out.2.2.2.2.size)).trans (hb2.mono (by have := HG.out.2.2.2.2.size; omega))
  have zw := HG.out.2.2.2.2.size
  have P3 : ScM w w2.heap.size 9 sk0 0 (fun k => k < W0.heap.size) (w2.alloc (.cells #[PV pm, .pointer none, .pointer none, .pointer none, .pointer none] 30)) :=
    ⟨ps, pm, px, _, ⟨s3, sk_inv0, hM.below A3, hT.below A3, B2.alloc B2.size _, fun k hk => Or.inl (Or.inl (by simp; omega)), Or.inl (Or.inr ⟨lx, lT⟩), Or.inl (Or.inr ⟨lm, lM⟩), by omega, ne⟩, q3, Or.inr ⟨Nat.le_refl _, by simp⟩, by omega, by omega, by omega, fun b hb => ⟨Or.inl (Or.inl (by simp; omega)), by omega, by omega, by omega⟩⟩
  have HP := Lib.hid P3
  clear hM hT hb2 lm lx ne A3 q3 z1 z2 lT lM s2 s3 B2 zw P3
  go_wp2_with fail
  go_ret2
  exact ⟨w2.heap.size, rfl, HP.out⟩

set_option maxRecDepth 100000 in
set_option maxHeartbeats 3200000 in
theorem play_walk {w : World} {P : Nat → Nat → (Nat → Prop) → World → Prop} (cl : ∀ pw k, Cl w (P pw k)) {v : Value} (acts : List Ac) (xs : List An) (hlen : xs.length = acts.length) (hact : AcRow w v acts) (hl : acts.length ≤ 1000)
    (hbe : Calls Tryz.prog 17 #[.agg #[.int .i64 1, .int .i64 2, .int .i64 9, .int .i64 64000, .int .i64 1000, .int .u32 9]] (w.alloc (.cells #[.int .i64 1, .int .i64 2, .int .i64 9, .int .i64 64000, .int .i64 1000, .int .u32 9] 46)) fun e w' => ∃ pw X, e = .returned (.tuple #[PV pw, .int .i64 0]) ∧ P pw 0 X w')
    (hdo : ∀ pw k (hk : k < acts.length) X W, P pw k X W → Calls Tryz.prog 6 #[PV pw, .agg #[.int .i64 acts[k].d, .int .i64 acts[k].n, SV acts[k].a, SV acts[k].b]] W fun e w' => StepQ (P pw (k + 1)) X W (xs[k]'(by omega)) e w') :
    Calls Tryz.prog 9 #[.agg #[.int .i64 1, .int .i64 2, .int .i64 9, .int .i64 64000, .int .i64 1000, .int .u32 9], v] w fun e w' => ∃ u, e = .returned (.tuple #[u, .int .i64 0]) ∧ ARow w' u xs ∧ Below w.heap.size w w' := by
  have q0 := heap_alloc_new w (.cells #[.int .i64 1, .int .i64 2, .int .i64 9, .int .i64 64000, .int .i64 1000, .int .u32 9] 46)
  have c0 : ((w.alloc (.cells #[.int .i64 1, .int .i64 2, .int .i64 9, .int .i64 64000, .int .i64 1000, .int .u32 9] 46))).cell? ⟨w.heap.size, 0, none⟩ = some (.int .i64 1) := by rw [cell_of_block q0]; rfl
  have c1 : ((w.alloc (.cells #[.int .i64 1, .int .i64 2, .int .i64 9, .int .i64 64000, .int .i64 1000, .int .u32 9] 46))).cell? ⟨w.heap.size, 1, none⟩ = some (.int .i64 2) := by rw [cell_of_block q0]; rfl
  have c2 : ((w.alloc (.cells #[.int .i64 1, .int .i64 2, .int .i64 9, .int .i64 64000, .int .i64 1000, .int .u32 9] 46))).cell? ⟨w.heap.size, 2, none⟩ = some (.int .i64 9) := by rw [cell_of_block q0]; rfl
  have c3 : ((w.alloc (.cells #[.int .i64 1, .int .i64 2, .int .i64 9, .int .i64 64000, .int .i64 1000, .int .u32 9] 46))).cell? ⟨w.heap.size, 3, none⟩ = some (.int .i64 64000) := by rw [cell_of_block q0]; rfl
  have c4 : ((w.alloc (.cells #[.int .i64 1, .int .i64 2, .int .i64 9, .int .i64 64000, .int .i64 1000, .int .u32 9] 46))).cell? ⟨w.heap.size, 4, none⟩ = some (.int .i64 1000) := by rw [cell_of_block q0]; rfl
  have c5 : ((w.alloc (.cells #[.int .i64 1, .int .i64 2, .int .i64 9, .int .i64 64000, .int .i64 1000, .int .u32 9] 46))).cell? ⟨w.heap.size, 5, none⟩ = some (.int .u32 9) := by rw [cell_of_block q0]; rfl
  obtain ⟨g, c, rfl, hc⟩ := hact
  obtain ⟨n, hn⟩ : ∃ n, acts.length = n := ⟨_, rfl⟩
  rw [hn] at hl
  obtain ⟨i0, hi, hz0, hz1, hz2⟩ := info_parts infoAns
  have HG := Lib.hid (And.intro hbe (And.intro hdo (And.intro hc (And.intro hn hlen))))
  rw [hn]
  clear hbe hdo hc hn q0
  go_enter Tryz.func9, Tryz.ntmps9
  go_wp2_with fail
  refine HG.out.1.mono ?_
  rintro e w1 ⟨pw, X0, rfl, hP0⟩
  have H0 := Lib.hid hP0
  clear hP0 c0 c1 c2 c3 c4 c5
  go_wp2_with fail
  go_loopw [8, 10, 21] (fun vo _ i wr => ∃ (k : Nat) (X R : Nat → Prop) (cs : List Value), k ≤ n ∧ i = .int .i64 k ∧ P pw k X wr ∧ wr.ownsRow w.heap.size 35 3 vo k cs ∧ Lay R wr (xs.take k) cs ∧ (∀ b, R b → X b) ∧ (∀ g, vo.ownBlock = some g → X g ∧ ¬ R g)) (fun _ _ i _ => n - (intOf i).toNat)
  case atStart => exact ⟨0, X0, fun _ => False, [], by omega, rfl, H0.out, ⟨rfl, Or.inl ⟨rfl, rfl⟩⟩, by simp [Lay], fun _ h => h.elim, fun g hg => by cases hg⟩
  case round =>
    obtain ⟨k, X, R, cs, hk, rfl, hP, hrow, hlay, hrx, hown⟩ := hrel
    by_cases hlt : k < n
    · have hlt' : (k : Int) < n := by omega
      have hkl : k < acts.length := by rw [HG.out.2.2.2.1]; exact hlt
      have hkx : k < xs.length := by rw [HG.out.2.2.2.2]; exact hkl
      have bl := (cl pw k).bl hP
      obtain ⟨d0, d1, d2, d3⟩ := HG.out.2.2.1 k hkl
      have hd := HG.out.2.1 pw k hkl
      have htk : xs.take (k + 1) = xs.take k ++ [xs[k]] := by rw [List.take_add_one, List.getElem?_eq_getElem hkx]; rfl
      generalize acts[k] = ac at d0 d1 d2 d3 hd
      generalize xs[k] = x at hd htk
      obtain ⟨ad, an, aa, ab⟩ := ac
      simp only at d0 d1 d2 d3 hd
      have e0 := (bl.cell (p := ⟨g, _, none⟩) (cell_lt d0)).trans d0
      have e1 := (bl.cell (p := ⟨g, _, none⟩) (cell_lt d1)).trans d1
      have e2 := (bl.cell (p := ⟨g, _, none⟩) (cell_lt d2)).trans d2
      have e3 := (bl.cell (p := ⟨g, _, none⟩) (cell_lt d3)).trans d3
      have A1 := (Below.refl wr.heap.size wr).alloc (Nat.le_refl _) (.cells #[.int .i64 ad, .int .i64 an, SV aa, SV ab] 23)
      have q1 := heap_alloc_new wr (.cells #[.int .i64 ad, .int .i64 an, SV aa, SV ab] 23)
      obtain ⟨X1, x1, xn1, P1⟩ := (cl pw k).grow hP A1
      have K1 : Keep X wr (wr.alloc (.cells #[.int .i64 ad, .int .i64 an, SV aa, SV ab] 23)) := Keep.of_below A1 ((cl pw k).lt hP)
      have hd1 := hd X1 _ P1
      have f0 : ((wr.alloc (.cells #[.int .i64 ad, .int .i64 an, SV aa, SV ab] 23))).cell? ⟨wr.heap.size, 0, none⟩ = some (.int .i64 ad) := by rw [cell_of_block q1]; rfl
      have f1 : ((wr.alloc (.cells #[.int .i64 ad, .int .i64 an, SV aa, SV ab] 23))).cell? ⟨wr.heap.size, 1, none⟩ = some (.int .i64 an) := by rw [cell_of_block q1]; rfl
      have f2 : ((wr.alloc (.cells #[.int .i64 ad, .int .i64 an, SV aa, SV ab] 23))).cell? ⟨wr.heap.size, 2, none⟩ = some (SV aa) := by rw [cell_of_block q1]; rfl
      have f3 : ((wr.alloc (.cells #[.int .i64 ad, .int .i64 an, SV aa, SV ab] 23))).cell? ⟨wr.heap.size, 3, none⟩ = some (SV ab) := by rw [cell_of_block q1]; rfl
      have ltX := (cl pw k).lt hP
      have z1 : (wr.alloc (.cells #[.int .i64 ad, .int .i64 an, SV aa, SV ab] 23)).heap.size = wr.heap.size + 1 := by simp
      have HI := Lib.hid (And.intro hrow (And.intro hlay (And.intro hown (And.intro bl (And.intro x1 (And.intro K1 (And.intro hd1 (And.intro htk (And.intro hrx (And.intro ltX z1))))))))))
      clear hrow hlay hown bl x1 xn1 K1 hd1 hd htk hrx ltX z1 d0 d1 d2 d3 A1 q1 P1 hP
      go_wp2_with fail
      refine HI.out.2.2.2.2.2.2.1.mono ?_
      rintro e w2 ⟨u, Z, rfl, zx, row, PZ, KZ⟩
      obtain ⟨hrow, hlay, hown, bl, x1, K1, -, htk, hrx, ltX, z1⟩ := HI.out
      have K2 : Keep X wr w2 := K1.trans (KZ.mono x1)
      have hrow2 := ownsRow_keep hrow fun g hg => K2.block g (hown g hg).1
      have hlay2 : Lay R w2 (xs.take k) cs := hlay.mono fun u l h => h.keep (K2.mono hrx)
      have ltZ := (cl pw (k + 1)).lt PZ
      obtain ⟨Q, hQ⟩ : ∃ Q : Nat → Prop, (fun b => (R b ∨ (Z b ∧ wr.heap.size + 1 ≤ b)) ∧ b < w2.heap.size) = Q := ⟨_, rfl⟩
      have hq : ∀ b, Q b ↔ (R b ∨ (Z b ∧ wr.heap.size + 1 ≤ b)) ∧ b < w2.heap.size := fun b => by rw [← hQ]
      have A3 := (Below.refl w2.heap.size w2).alloc (Nat.le_refl _) (.cells #[.int .i64 x.e, .int .i64 x.n, u] 35)
      obtain ⟨Z3, zx3, zn3, P3⟩ := (cl pw (k + 1)).grow PZ A3
      have hrow3 := hrow2.alloc (.cells #[.int .i64 x.e, .int .i64 x.n, u] 35)
      have lay3 : Lay Q (w2.alloc (.cells #[.int .i64 x.e, .int .i64 x.n, u] 35)) (xs.take (k + 1)) (cs ++ [.int .i64 x.e, .int .i64 x.n, u]) := by
        rw [htk]
        rw [z1] at row
        refine Lay.snoc ((row.wide fun b hb => (hq b).2 ⟨Or.inr hb, ltZ b hb.1⟩).below A3) (hlay2.mono fun u l h => (h.wide fun b hb => (hq b).2 ⟨Or.inl hb, ltZ b (zx b (x1 b (hrx b hb)))⟩).below A3)
      have one : (u : Value).oneCell' = true := by
        obtain ⟨⟨A, c, rfl, -⟩, -⟩ := row
        rfl
      have bl2 := (cl pw (k + 1)).bl PZ
      have H3 := Lib.hid (And.intro hrow3 (And.intro lay3 (And.intro P3 (And.intro one (And.intro bl2 (And.intro (fun g hg => And.intro (zx3 g (zx g (x1 g (hown g hg).1))) (show ¬ Q g from fun h => by
        have := ltX g (hown g hg).1
        rcases ((hq g).1 h).1 with h | h
        · exact (hown g hg).2 h
        · omega)) (fun b hb => And.intro (show Z3 b from by
        rcases ((hq b).1 hb).1 with h | h
        · exact zx3 b (zx b (x1 b (hrx b h)))
        · exact zx3 b h.1) (show b < w2.heap.size from ((hq b).1 hb).2))))))))
      clear hrow hlay hown bl x1 K1 htk hrx ltX z1 K2 hrow2 hlay2 ltZ hQ hq A3 zx3 zn3 P3 hrow3 lay3 one bl2 zx row PZ KZ HI
      go_wp2_with (at_builtin; refine wpList_append_own_at _ rfl _ _ 37 rfl w.heap.size 35 i0 (.agg #[.int .i64 0, .int .i64 0, .slice none 0 0]) 3 40 Tryz.underlying37 hi hz0 hz1 hz2 rfl (by decide) _ _ _ rfl H3.out.1 ⟨w2.heap.size, 0, none⟩ 1 1 [.int .i64 x.e, .int .i64 x.n, u] rfl rfl (cell_three_new _ _ _ _ _) ?c2 ?c3 ?c4 ?c5 ?_)
      case c2 =>
        have := H3.out.2.2.2.1
        simp [Value.oneCell']
        exact this
      case c3 => unfold maxLen; omega
      case c4 => omega
      case c5 => have := H3.out.2.2.2.2.1.size; simp; omega
      intro v' w5 hown5 hgrow _ hat
      obtain ⟨hrow3, lay3, P3, -, bl2, hx3, hqx⟩ := H3.out
      obtain ⟨Z5, zx5, zn5, P5⟩ := (cl pw (k + 1)).turn P3 hgrow fun g hg => ⟨(hx3 g hg).1, (hrow3.lt g hg).1, by
        rcases hrow3.2 with ⟨rfl, -⟩ | ⟨g', cap, cur, rfl, -, hgb, -⟩
        · cases hg
        · obtain rfl : g' = g := by simpa [Value.ownBlock] using hg
          exact ⟨_, _, _, hgb, by decide, by decide⟩⟩
      have kQ : Keep Q (w2.alloc (.cells #[.int .i64 x.e, .int .i64 x.n, u] 35)) w5 := ⟨hgrow.os, hgrow.tape, hgrow.output, hgrow.size, fun b hb => hgrow.block b (by simp; have := (hqx b hb).2; omega) fun e => (hx3 b e.symm).2 hb⟩
      have lay5 : Lay Q w5 (xs.take (k + 1)) (cs ++ [.int .i64 x.e, .int .i64 x.n, u]) := lay3.mono fun u l h => h.keep kQ
      have own5 : ∀ g, v'.ownBlock = some g → Z5 g ∧ ¬ Q g := fun g hg => by
        rcases hat with e | e
        · have h := hx3 g (by rw [← e]; exact hg)
          exact ⟨zx5 g h.1, h.2⟩
        · have e2 : g = (w2.alloc (.cells #[.int .i64 x.e, .int .i64 x.n, u] 35)).heap.size := by rw [hg] at e; rw [World.size_alloc]; exact Option.some.inj e
          have hl := (hown5.lt g hg).2
          rw [e2] at hl ⊢
          exact ⟨zn5 _ (Nat.le_refl _) hl, fun h => by have := (hqx _ h).2; rw [World.size_alloc] at this; omega⟩
      have hq5 : ∀ b, Q b → Z5 b := fun b hb => zx5 b (hqx b hb).1
      have HW := Lib.hid (And.intro P5 (And.intro hown5 (And.intro lay5 (And.intro hq5 own5))))
      clear hrow3 lay3 P3 bl2 hx3 hqx zx5 zn5 P5 kQ lay5 own5 hq5 hown5 hgrow hat
      go_wp2_with fail
      go_roundw
      case rel => exact ⟨k + 1, Z5, Q, _, by omega, by simp, HW.out⟩
      case measure => simp [intOf]; omega
    · obtain rfl : k = n := by omega
      have hx : xs.take k = xs := List.take_of_length_le (by rw [HG.out.2.2.2.2, HG.out.2.2.2.1]; exact Nat.le_refl _)
      rw [hx] at hlay
      have hrow' : wr.ownsRow w.heap.size 35 3 u8 xs.length cs := by rw [HG.out.2.2.2.2, HG.out.2.2.2.1]; exact hrow
      have HI := Lib.hid (And.intro (ARow.of_lay hrow' hlay) ((cl pw k).bl hP))
      clear hrow hlay hown hP hrow' hx hrx
      go_wp2_with fail
      go_ret2
      exact ⟨_, rfl, HI.out⟩
end Go.Proofs.YtoaabbnieakidaaGreatDoorR
