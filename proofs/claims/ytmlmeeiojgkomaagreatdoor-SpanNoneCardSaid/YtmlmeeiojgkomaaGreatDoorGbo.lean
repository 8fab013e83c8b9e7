/- Ranges of maps: the law's own map of three keys; what its checks say of it: the walks. -/
import Derived.Test.YtmlmeeiojgkomaaGreatDoorGbn
import Derived.Test.YtmlmeeiojgkomaaGreatDoorGap
namespace Go.Proofs.YtmlmeeiojgkomaaGreatDoor
open Go.RowKit Go.BigFrame Go.Maps Go.WideMaps Lf

/-- where the making of a map stands -/
structure MdAt (w : World) (ps pm px : Nat) (S : St) (root : Nat) (Y : Nat → Prop) (wr : World) : Prop where
  st : StOn wr ps S Y
  inv : Inv S
  m : MapOn wr pm px ps 1000
  t : TreeOn wr px ps 1 root
  bl : Below w.heap.size w wr
  y : ∀ k, k < w.heap.size → Y k
  yx : Y px
  ym : Y pm
  nx : w.heap.size ≤ px
  ne : pm ≠ px
theorem MdAt.next {w wr w' : World} {ps pm px root root' : Nat} {S S' : St} {Y : Nat → Prop} (h : MdAt w ps pm px S root Y wr) (h1 : StOn w' ps S' Y) (h2 : Keep (fun k => Y k ∧ k ≠ px) wr.drew w') (h3 : TreeOn w' px ps 1 root') (h4 : Inv S') : MdAt w ps pm px S' root' Y w' :=
  ⟨h1, h4, (h2.block pm ⟨h.ym, h.ne⟩).trans h.m, h3, ⟨h2.os.trans h.bl.os, h2.tape.trans h.bl.tape, h2.output.trans h.bl.output, Nat.le_trans h.bl.size h2.size, fun k hk => (h2.block k ⟨h.y k hk, by have := h.nx; omega⟩).trans (h.bl.block k hk)⟩, h.y, h.yx, h.ym, h.nx, h.ne⟩
theorem MdAt.put1 {w wr : World} {ps pm px : Nat} {Y : Nat → Prop} (h : MdAt w ps pm px abc0 0 Y wr) :
    Calls Tryz.prog 21 #[PV pm, SV [97], SV []] wr.drew fun e w' => e = .returned (.tuple #[.string ⟨#[]⟩, .bool false, .int .i64 0]) ∧ MdAt w ps pm px abc1 4294967299 Y w' := by
  refine (map_put (h.st.below (Below.refl _ _).drew) h.inv (h.m.below (Below.refl _ _).drew) (h.t.below (Below.refl _ _).drew) h.yx (by decide) kind_avl [97] [] (by decide) (by decide) abc_ok1 abc_run1).mono ?_
  rintro e w' ⟨rfl, h1, h2, h3, h4, -⟩
  exact ⟨rfl, h.next h1 h2 h3 h4⟩
theorem MdAt.put2 {w wr : World} {ps pm px : Nat} {Y : Nat → Prop} (h : MdAt w ps pm px abc1 4294967299 Y wr) :
    Calls Tryz.prog 21 #[PV pm, SV [98], SV []] wr.drew fun e w' => e = .returned (.tuple #[.string ⟨#[]⟩, .bool false, .int .i64 0]) ∧ MdAt w ps pm px abc2 4294967302 Y w' := by
  refine (map_put (h.st.below (Below.refl _ _).drew) h.inv (h.m.below (Below.refl _ _).drew) (h.t.below (Below.refl _ _).drew) h.yx (by decide) kind_avl [98] [] (by decide) (by decide) abc_ok2 abc_run2).mono ?_
  rintro e w' ⟨rfl, h1, h2, h3, h4, -⟩
  exact ⟨rfl, h.next h1 h2 h3 h4⟩
theorem MdAt.put3 {w wr : World} {ps pm px : Nat} {Y : Nat → Prop} (h : MdAt w ps pm px abc2 4294967302 Y wr) :
    Calls Tryz.prog 21 #[PV pm, SV [99], SV []] wr.drew fun e w' => e = .returned (.tuple #[.string ⟨#[]⟩, .bool false, .int .i64 0]) ∧ MdAt w ps pm px abc3 4294967302 Y w' := by
  refine (map_put (h.st.below (Below.refl _ _).drew) h.inv (h.m.below (Below.refl _ _).drew) (h.t.below (Below.refl _ _).drew) h.yx (by decide) kind_avl [99] [] (by decide) (by decide) abc_ok3 abc_run3).mono ?_
  rintro e w' ⟨rfl, h1, h2, h3, h4, -⟩
  exact ⟨rfl, h.next h1 h2 h3 h4⟩

set_option maxRecDepth 100000 in
set_option maxHeartbeats 6400000 in
theorem made_abc {w : World} {v : Value} (ht : Tab64 w) (h : RowP w v [([97], []), ([98], []), ([99], [])]) :
    Calls Tryz.prog 10 #[.int .i64 1, .int .i64 0, v] w fun e w' => ∃ ps pm px Y, e = .returned (.tuple #[PV ps, PV pm, .bool true]) ∧ MdAt w ps pm px abc3 4294967302 Y w' := by
  have hfi := fine_bin 1 (Or.inl rfl) 0 w
  have hlo := long_three h (by decide) (by decide) (by decide)
  have hsn := store_new ht 262144 4000 4294967295 (by omega) (by omega) (by omega)
  have hmn := fun W ps Y (hW : StOn W ps abc0 Y) => map_new hW abc_inv0 kind_avl 0 1000 (by omega)
  obtain ⟨g, cap, rfl, hcl⟩ := h
  have hcx : ∀ j u, (prow [([97], []), ([98], []), ([99], [])])[j]? = some u → ∀ x : Keeps (Below w.heap.size w), x.to.cell? ⟨g, j, none⟩ = some u := fun j u hu x => by
    obtain ⟨g', c', e1, e2⟩ := RowP.below (w' := x.to) ⟨g, cap, rfl, hcl⟩ x.ok
    injection e1 with e1
    injection e1 with e1
    injection e1 with e1
    subst e1
    exact e2 j u hu
  have c0 := hcx 0 (SV [97]) rfl
  have c1 := hcx 1 (SV []) rfl
  have c2 := hcx 2 (SV [98]) rfl
  have c3 := hcx 3 (SV []) rfl
  have c4 := hcx 4 (SV [99]) rfl
  have c5 := hcx 5 (SV []) rfl
  clear hcl hcx
  simp only [List.length_cons, List.length_nil, Nat.reduceAdd] at hlo ⊢
  have HG := Lib.hid (And.intro hfi (And.intro hlo (And.intro hsn hmn)))
  clear hfi hlo hsn hmn ht
  go_enter Tryz.func10, Tryz.ntmps10
  go_wp2_with fail
  refine HG.out.1.mono ?_
  rintro e w1 ⟨rfl, rfl⟩
  go_wp2_with fail
  refine HG.out.2.1.mono ?_
  rintro e w1 ⟨rfl, rfl⟩
  go_wp2_with fail
  refine HG.out.2.2.1.mono ?_
  rintro e w1 ⟨ps, rfl, hs1, hb1⟩
  have H1 := Lib.hid (And.intro hs1 hb1)
  clear hs1 hb1
  go_wp2_with fail
  refine (HG.out.2.2.2 _ _ _ H1.out.1).mono ?_
  rintro e w2 ⟨pm, px, rfl, hM, hT, hb2, lm, lx, ne⟩
  have hmd : MdAt w1 ps pm px abc0 0 (fun k => k < w1.heap.size ∨ (w1.heap.size ≤ k ∧ k < w2.heap.size)) w2 → True := fun _ => trivial
  have hm0 : MdAt w ps pm px abc0 0 (fun k => k < w.heap.size ∨ (w1.heap.size ≤ k ∧ k < w2.heap.size)) w2 :=
    ⟨H1.out.1.wide hb2, abc_inv0, hM, hT, H1.out.2.trans (hb2.mono H1.out.2.size), fun k hk => Or.inl hk, Or.inr ⟨lx, (Array.getElem?_eq_some_iff.1 hT).1⟩, Or.inr ⟨lm, (Array.getElem?_eq_some_iff.1 hM).1⟩, Nat.le_trans H1.out.2.size lx, ne⟩
  have HM := Lib.hid hm0
  clear hM hT hb2 lm lx ne hmd hm0
  go_wp2_with fail
  generalize (fun k => k < w.heap.size ∨ (w1.heap.size ≤ k ∧ k < w2.heap.size)) = Y at *
  go_loopw [13] (fun i wr => (i = .int .i64 0 ∧ MdAt w ps pm px abc0 0 Y wr) ∨ (i = .int .i64 1 ∧ MdAt w ps pm px abc1 4294967299 Y wr) ∨ (i = .int .i64 2 ∧ MdAt w ps pm px abc2 4294967302 Y wr) ∨ (i = .int .i64 3 ∧ MdAt w ps pm px abc3 4294967302 Y wr)) (fun i _ => 3 - (intOf i).toNat)
  case atStart => exact Or.inl ⟨rfl, HM.out⟩
  case round =>
    obtain ⟨rfl, hP⟩ | ⟨rfl, hP⟩ | ⟨rfl, hP⟩ | ⟨rfl, hP⟩ := hrel
    · have hI0 : Below w.heap.size w wr.drew := hP.bl.drew
      have HP := Lib.hid hP
      clear hP
      go_wp2_with fail
      refine wp_region_plan (Below w.heap.size w) (.take 0 (.take 1 (.take 2 (.take 3 (.take 4 (.take 5 (.take 6 (.take 7 (.take 8 (.take 9 (.take 10 (.go 11 .nil)))))))))))) (by kernel_rfl) (by kernel_rfl) hI0 ?_
      clear hI0
      refine' plan_take _ (by rfl) _ (by rfl) ?_ ?_
      rotate_left
      · rintro _ ⟨x, rfl⟩
        have hxc0 := c0 x
        have hxc1 := c1 x
        go_simp
        try with_reducible rfl
      try simp only [Act.put, List.setIfInBounds_toArray, List.set_cons_zero, List.set_cons_succ]
      refine' plan_take _ (by rfl) _ (by rfl) ?_ ?_
      rotate_left
      · rintro _ ⟨x, rfl⟩
        have hxc0 := c0 x
        have hxc1 := c1 x
        go_simp
        try with_reducible rfl
      try simp only [Act.put, List.setIfInBounds_toArray, List.set_cons_zero, List.set_cons_succ]
      refine' plan_take _ (by rfl) _ (by rfl) ?_ ?_
      rotate_left
      · rintro _ ⟨x, rfl⟩
        have hxc0 := c0 x
        have hxc1 := c1 x
        go_simp
        try with_reducible rfl
      try simp only [Act.put, List.setIfInBounds_toArray, List.set_cons_zero, List.set_cons_succ]
      refine' plan_take _ (by rfl) _ (by rfl) ?_ ?_
      rotate_left
      · rintro _ ⟨x, rfl⟩
        have hxc0 := c0 x
        have hxc1 := c1 x
        go_simp
        try with_reducible rfl
      try simp only [Act.put, List.setIfInBounds_toArray, List.set_cons_zero, List.set_cons_succ]
      refine' plan_take _ (by rfl) _ (by rfl) ?_ ?_
      rotate_left
      · rintro _ ⟨x, rfl⟩
        have hxc0 := c0 x
        have hxc1 := c1 x
        go_simp
        try with_reducible rfl
      try simp only [Act.put, List.setIfInBounds_toArray, List.set_cons_zero, List.set_cons_succ]
      refine' plan_take _ (by rfl) _ (by rfl) ?_ ?_
      rotate_left
      · rintro _ ⟨x, rfl⟩
        have hxc0 := c0 x
        have hxc1 := c1 x
        go_simp
        try with_reducible rfl
      try simp only [Act.put, List.setIfInBounds_toArray, List.set_cons_zero, List.set_cons_succ]
      refine' plan_take _ (by rfl) _ (by rfl) ?_ ?_
      rotate_left
      · rintro _ ⟨x, rfl⟩
        have hxc0 := c0 x
        have hxc1 := c1 x
        go_simp
        try with_reducible rfl
      try simp only [Act.put, List.setIfInBounds_toArray, List.set_cons_zero, List.set_cons_succ]
      refine' plan_take _ (by rfl) _ (by rfl) ?_ ?_
      rotate_left
      · rintro _ ⟨x, rfl⟩
        have hxc0 := c0 x
        have hxc1 := c1 x
        go_simp
        try with_reducible rfl
      try simp only [Act.put, List.setIfInBounds_toArray, List.set_cons_zero, List.set_cons_succ]
      refine' plan_take _ (by rfl) _ (by rfl) ?_ ?_
      rotate_left
      · rintro _ ⟨x, rfl⟩
        have hxc0 := c0 x
        have hxc1 := c1 x
        go_simp
        try with_reducible rfl
      try simp only [Act.put, List.setIfInBounds_toArray, List.set_cons_zero, List.set_cons_succ]
      refine' plan_take _ (by rfl) _ (by rfl) ?_ ?_
      rotate_left
      · rintro _ ⟨x, rfl⟩
        have hxc0 := c0 x
        have hxc1 := c1 x
        go_simp
        try with_reducible rfl
      try simp only [Act.put, List.setIfInBounds_toArray, List.set_cons_zero, List.set_cons_succ]
      refine' plan_take _ (by rfl) _ (by rfl) ?_ ?_
      rotate_left
      · rintro _ ⟨x, rfl⟩
        have hxc0 := c0 x
        have hxc1 := c1 x
        go_simp
        try with_reducible rfl
      try simp only [Act.put, List.setIfInBounds_toArray, List.set_cons_zero, List.set_cons_succ]
      refine plan_do _ (by rfl) (by rfl) (fun K hK => ?_)
      go_simp
      refine (HP.out.put1).mono ?_
      rintro e w5 ⟨rfl, hP5⟩
      try go_simp
      refine hK.out _ _ (hP5.bl) ?_
      clear hK K
      try simp only [Act.put, List.setIfInBounds_toArray, List.set_cons_zero, List.set_cons_succ]
      refine plan_nil ?_
      go_wp2_with fail
      exact ⟨Or.inr (Or.inl ⟨rfl, hP5⟩), by simp [intOf]⟩
    · have hI0 : Below w.heap.size w wr.drew := hP.bl.drew
      have HP := Lib.hid hP
      clear hP
      go_wp2_with fail
      refine wp_region_plan (Below w.heap.size w) (.take 0 (.take 1 (.take 2 (.take 3 (.take 4 (.take 5 (.take 6 (.take 7 (.take 8 (.take 9 (.take 10 (.go 11 .nil)))))))))))) (by kernel_rfl) (by kernel_rfl) hI0 ?_
      clear hI0
      refine' plan_take _ (by rfl) _ (by rfl) ?_ ?_
      rotate_left
      · rintro _ ⟨x, rfl⟩
        have hxc2 := c2 x
        have hxc3 := c3 x
        go_simp
        try with_reducible rfl
      try simp only [Act.put, List.setIfInBounds_toArray, List.set_cons_zero, List.set_cons_succ]
      refine' plan_take _ (by rfl) _ (by rfl) ?_ ?_
      rotate_left
      · rintro _ ⟨x, rfl⟩
        have hxc2 := c2 x
        have hxc3 := c3 x
        go_simp
        try with_reducible rfl
      try simp only [Act.put, List.setIfInBounds_toArray, List.set_cons_zero, List.set_cons_succ]
      refine' plan_take _ (by rfl) _ (by rfl) ?_ ?_
      rotate_left
      · rintro _ ⟨x, rfl⟩
        have hxc2 := c2 x
        have hxc3 := c3 x
        go_simp
        try with_reducible rfl
      try simp only [Act.put, List.setIfInBounds_toArray, List.set_cons_zero, List.set_cons_succ]
      refine' plan_take _ (by rfl) _ (by rfl) ?_ ?_
      rotate_left
      · rintro _ ⟨x, rfl⟩
        have hxc2 := c2 x
        have hxc3 := c3 x
        go_simp
        try with_reducible rfl
      try simp only [Act.put, List.setIfInBounds_toArray, List.set_cons_zero, List.set_cons_succ]
      refine' plan_take _ (by rfl) _ (by rfl) ?_ ?_
      rotate_left
      · rintro _ ⟨x, rfl⟩
        have hxc2 := c2 x
        have hxc3 := c3 x
        go_simp
        try with_reducible rfl
      try simp only [Act.put, List.setIfInBounds_toArray, List.set_cons_zero, List.set_cons_succ]
      refine' plan_take _ (by rfl) _ (by rfl) ?_ ?_
      rotate_left
      · rintro _ ⟨x, rfl⟩
        have hxc2 := c2 x
        have hxc3 := c3 x
        go_simp
        try with_reducible rfl
      try simp only [Act.put, List.setIfInBounds_toArray, List.set_cons_zero, List.set_cons_succ]
      refine' plan_take _ (by rfl) _ (by rfl) ?_ ?_
      rotate_left
      · rintro _ ⟨x, rfl⟩
        have hxc2 := c2 x
        have hxc3 := c3 x
        go_simp
        try with_reducible rfl
      try simp only [Act.put, List.setIfInBounds_toArray, List.set_cons_zero, List.set_cons_succ]
      refine' plan_take _ (by rfl) _ (by rfl) ?_ ?_
      rotate_left
      · rintro _ ⟨x, rfl⟩
        have hxc2 := c2 x
        have hxc3 := c3 x
        go_simp
        try with_reducible rfl
      try simp only [Act.put, List.setIfInBounds_toArray, List.set_cons_zero, List.set_cons_succ]
      refine' plan_take _ (by rfl) _ (by rfl) ?_ ?_
      rotate_left
      · rintro _ ⟨x, rfl⟩
        have hxc2 := c2 x
        have hxc3 := c3 x
        go_simp
        try with_reducible rfl
      try simp only [Act.put, List.setIfInBounds_toArray, List.set_cons_zero, List.set_cons_succ]
      refine' plan_take _ (by rfl) _ (by rfl) ?_ ?_
      rotate_left
      · rintro _ ⟨x, rfl⟩
        have hxc2 := c2 x
        have hxc3 := c3 x
        go_simp
        try with_reducible rfl
      try simp only [Act.put, List.setIfInBounds_toArray, List.set_cons_zero, List.set_cons_succ]
      refine' plan_take _ (by rfl) _ (by rfl) ?_ ?_
      rotate_left
      · rintro _ ⟨x, rfl⟩
        have hxc2 := c2 x
        have hxc3 := c3 x
        go_simp
        try with_reducible rfl
      try simp only [Act.put, List.setIfInBounds_toArray, List.set_cons_zero, List.set_cons_succ]
      refine plan_do _ (by rfl) (by rfl) (fun K hK => ?_)
      go_simp
      refine (HP.out.put2).mono ?_
      rintro e w5 ⟨rfl, hP5⟩
      try go_simp
      refine hK.out _ _ (hP5.bl) ?_
      clear hK K
      try simp only [Act.put, List.setIfInBounds_toArray, List.set_cons_zero, List.set_cons_succ]
      refine plan_nil ?_
      go_wp2_with fail
      exact ⟨Or.inr (Or.inr (Or.inl ⟨rfl, hP5⟩)), by simp [intOf]⟩
    · have hI0 : Below w.heap.size w wr.drew := hP.bl.drew
      have HP := Lib.hid hP
      clear hP
      go_wp2_with fail
      refine wp_region_plan (Below w.heap.size w) (.take 0 (.take 1 (.take 2 (.take 3 (.take 4 (.take 5 (.take 6 (.take 7 (.take 8 (.take 9 (.take 10 (.go 11 .nil)))))))))))) (by kernel_rfl) (by kernel_rfl) hI0 ?_
      clear hI0
      refine' plan_take _ (by rfl) _ (by rfl) ?_ ?_
      rotate_left
      · rintro _ ⟨x, rfl⟩
        have hxc4 := c4 x
        have hxc5 := c5 x
        go_simp
        try with_reducible rfl
      try simp only [Act.put, List.setIfInBounds_toArray, List.set_cons_zero, List.set_cons_succ]
      refine' plan_take _ (by rfl) _ (by rfl) ?_ ?_
      rotate_left
      · rintro _ ⟨x, rfl⟩
        have hxc4 := c4 x
        have hxc5 := c5 x
        go_simp
        try with_reducible rfl
      try simp only [Act.put, List.setIfInBounds_toArray, List.set_cons_zero, List.set_cons_succ]
      refine' plan_take _ (by rfl) _ (by rfl) ?_ ?_
      rotate_left
      · rintro _ ⟨x, rfl⟩
        have hxc4 := c4 x
        have hxc5 := c5 x
        go_simp
        try with_reducible rfl
      try simp only [Act.put, List.setIfInBounds_toArray, List.set_cons_zero, List.set_cons_succ]
      refine' plan_take _ (by rfl) _ (by rfl) ?_ ?_
      rotate_left
      · rintro _ ⟨x, rfl⟩
        have hxc4 := c4 x
        have hxc5 := c5 x
        go_simp
        try with_reducible rfl
      try simp only [Act.put, List.setIfInBounds_toArray, List.set_cons_zero, List.set_cons_succ]
      refine' plan_take _ (by rfl) _ (by rfl) ?_ ?_
      rotate_left
      · rintro _ ⟨x, rfl⟩
        have hxc4 := c4 x
        have hxc5 := c5 x
        go_simp
        try with_reducible rfl
      try simp only [Act.put, List.setIfInBounds_toArray, List.set_cons_zero, List.set_cons_succ]
      refine' plan_take _ (by rfl) _ (by rfl) ?_ ?_
      rotate_left
      · rintro _ ⟨x, rfl⟩
        have hxc4 := c4 x
        have hxc5 := c5 x
        go_simp
        try with_reducible rfl
      try simp only [Act.put, List.setIfInBounds_toArray, List.set_cons_zero, List.set_cons_succ]
      refine' plan_take _ (by rfl) _ (by rfl) ?_ ?_
      rotate_left
      · rintro _ ⟨x, rfl⟩
        have hxc4 := c4 x
        have hxc5 := c5 x
        go_simp
        try with_reducible rfl
      try simp only [Act.put, List.setIfInBounds_toArray, List.set_cons_zero, List.set_cons_succ]
      refine' plan_take _ (by rfl) _ (by rfl) ?_ ?_
      rotate_left
      · rintro _ ⟨x, rfl⟩
        have hxc4 := c4 x
        have hxc5 := c5 x
        go_simp
        try with_reducible rfl
      try simp only [Act.put, List.setIfInBounds_toArray, List.set_cons_zero, List.set_cons_succ]
      refine' plan_take _ (by rfl) _ (by rfl) ?_ ?_
      rotate_left
      · rintro _ ⟨x, rfl⟩
        have hxc4 := c4 x
        have hxc5 := c5 x
        go_simp
        try with_reducible rfl
      try simp only [Act.put, List.setIfInBounds_toArray, List.set_cons_zero, List.set_cons_succ]
      refine' plan_take _ (by rfl) _ (by rfl) ?_ ?_
      rotate_left
      · rintro _ ⟨x, rfl⟩
        have hxc4 := c4 x
        have hxc5 := c5 x
        go_simp
        try with_reducible rfl
      try simp only [Act.put, List.setIfInBounds_toArray, List.set_cons_zero, List.set_cons_succ]
      refine' plan_take _ (by rfl) _ (by rfl) ?_ ?_
      rotate_left
      · rintro _ ⟨x, rfl⟩
        have hxc4 := c4 x
        have hxc5 := c5 x
        go_simp
        try with_reducible rfl
      try simp only [Act.put, List.setIfInBounds_toArray, List.set_cons_zero, List.set_cons_succ]
      refine plan_do _ (by rfl) (by rfl) (fun K hK => ?_)
      go_simp
      refine (HP.out.put3).mono ?_
      rintro e w5 ⟨rfl, hP5⟩
      try go_simp
      refine hK.out _ _ (hP5.bl) ?_
      clear hK K
      try simp only [Act.put, List.setIfInBounds_toArray, List.set_cons_zero, List.set_cons_succ]
      refine plan_nil ?_
      go_wp2_with fail
      exact ⟨Or.inr (Or.inr (Or.inr ⟨rfl, hP5⟩)), by simp [intOf]⟩
    · have HP := Lib.hid hP
      clear hP
      go_wp2_with fail
      go_ret3
      exact ⟨ps, pm, px, Y, rfl, HP.out⟩
end Go.Proofs.YtmlmeeiojgkomaaGreatDoor
