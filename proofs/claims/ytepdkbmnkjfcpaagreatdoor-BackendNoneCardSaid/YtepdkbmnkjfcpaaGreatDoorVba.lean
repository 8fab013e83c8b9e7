/- B-trees: get, size, asked: the walks. Nodes of B-trees: Get of what is no record; B-trees: get, size of nothing: the walks. -/
import Derived.Test.YtepdkbmnkjfcpaaGreatDoorVax
import Derived.Test.YtepdkbmnkjfcpaaGreatDoorVaz
set_option maxRecDepth 100000
set_option maxHeartbeats 1600000
namespace Go.Proofs.YtepdkbmnkjfcpaaGreatDoor
open Go.RowKit Go.BigFrame Go.Maps Go.WideMaps Lf Tr
theorem bt_get {w : World} {ps : Nat} {S : St} {Y : Nat → Prop} (h : StOn w ps S Y) (hi : Inv S) {t hh : Nat} {n : BN} (hb : BnAt S t hh n) :
    Calls Tryz.prog 189 #[trB ps t, .int .u64 hh] w fun e w' => ∃ vk vv vc, e = .returned (.tuple #[bnV vk vv vc n.size, .bool true]) ∧ Rows3 w' w.heap.size vk vv vc n.keys n.vals n.kids ∧ Below w.heap.size w w' := by
  have B0 := ((Below.refl w.heap.size w).alloc (Nat.le_refl _) (.cells #[PV ps, .int .i64 t] 221)).alloc (by simp) (.cells #[.slice none 0 0, .slice none 0 0, .slice none 0 0, .int .u64 0] 267)
  have z1 : (w.alloc (.cells #[PV ps, .int .i64 t] 221)).heap.size = w.heap.size + 1 := by simp
  have q1 := heap_alloc_new w (.cells #[PV ps, .int .i64 t] 221)
  have q2 := heap_alloc_new (w.alloc (.cells #[PV ps, .int .i64 t] 221)) (.cells #[.slice none 0 0, .slice none 0 0, .slice none 0 0, .int .u64 0] 267)
  have q3 := (((Below.refl (w.alloc (.cells #[PV ps, .int .i64 t] 221)).heap.size (w.alloc (.cells #[PV ps, .int .i64 t] 221))).alloc (Nat.le_refl _) (.cells #[.slice none 0 0, .slice none 0 0, .slice none 0 0, .int .u64 0] 267)).block w.heap.size (by simp)).trans q1
  rw [z1] at q2
  generalize hW : (w.alloc (.cells #[PV ps, .int .i64 t] 221)).alloc (.cells #[.slice none 0 0, .slice none 0 0, .slice none 0 0, .int .u64 0] 267) = W0 at *
  obtain ⟨sz, hsz⟩ : ∃ sz, n.size = sz := ⟨_, rfl⟩
  have hg := bnode_get (h.below B0) hi hb.ok hh hb.lt hb.len hb.get hb.words
  unfold bnV at hg
  rw [hsz] at hg
  have c0 : (W0).cell? ⟨w.heap.size, 0, none⟩ = some (PV ps) := by rw [cell_of_block q3]; rfl
  have c1 : (W0).cell? ⟨w.heap.size, 1, none⟩ = some (.int .i64 t) := by rw [cell_of_block q3]; rfl
  have hz : w.heap.size + 2 ≤ W0.heap.size := by rw [← hW]; simp
  unfold trB
  have HG := Lib.hid (And.intro hg (And.intro B0 (And.intro q2 (And.intro hW hz))))
  clear hg B0 h hi hb q1 q2 q3 z1 hz
  go_enter Tryz.func189, Tryz.ntmps189
  go_wp2_with fail
  refine HG.out.1.mono ?_
  rintro e w1 ⟨vk, vv, vc, rfl, rows, hb⟩
  obtain ⟨Ak, ck, rfl⟩ := rows.k.slice2
  obtain ⟨Av, cv, rfl⟩ := rows.v.slice2
  obtain ⟨Ac, cc, rfl⟩ := rows.c.slice2
  obtain ⟨ks, hks⟩ : ∃ l, n.keys = l := ⟨_, rfl⟩
  obtain ⟨vs, hvs⟩ : ∃ l, n.vals = l := ⟨_, rfl⟩
  obtain ⟨cs, hcs⟩ : ∃ l, n.kids = l := ⟨_, rfl⟩
  rw [hks, hvs, hcs] at rows ⊢
  rw [hks, hvs, hcs] at HG
  generalize hlk : ks.length = lk at rows ⊢
  generalize hlv : vs.length = lv at rows ⊢
  generalize hlc : cs.length = lc at rows ⊢
  have A1 := (Below.refl w1.heap.size w1).alloc (Nat.le_refl _) (.cells #[(.slice Ak lk ck), (.slice Av lv cv), (.slice Ac lc cc), .int .u64 sz] 267)
  have p1 := heap_alloc_new w1 (.cells #[(.slice Ak lk ck), (.slice Av lv cv), (.slice Ac lc cc), .int .u64 sz] 267)
  have r2 := (A1.block (w.heap.size + 1) (by have := hb.size; have := HG.out.2.2.2.2; omega)).trans ((hb.block (w.heap.size + 1) (by have := HG.out.2.2.2.2; omega)).trans HG.out.2.2.1)
  have hne : w.heap.size + 1 ≠ w1.heap.size := by have := hb.size; have := HG.out.2.2.2.2; omega
  have BA := HG.out.2.1.trans ((hb.trans (A1.mono hb.size)).mono HG.out.2.1.size)
  have rowsA := rows.lift (W' := w1.alloc (.cells #[(.slice Ak lk ck), (.slice Av lv cv), (.slice Ac lc cc), .int .u64 sz] 267)) (D' := W0.heap.size) (Nat.le_refl _) fun g _ hg => A1.block g hg
  have r1 := (hb.block (w.heap.size + 1) (by have := HG.out.2.2.2.2; omega)).trans HG.out.2.2.1
  have HB := Lib.hid (And.intro rowsA (And.intro BA (And.intro r2 (And.intro p1 (And.intro r1 hne)))))
  clear rows hb A1 p1 r2 BA rowsA hne r1
  obtain ⟨W1, hW1⟩ : ∃ W1, w1.alloc (.cells #[(.slice Ak lk ck), (.slice Av lv cv), (.slice Ac lc cc), .int .u64 sz] 267) = W1 := ⟨_, rfl⟩
  rw [hW1] at HB
  have r2 := HB.out.2.2.1
  have p1 := HB.out.2.2.2.1
  have x0 : (W1).cell? ⟨w1.heap.size, 0, none⟩ = some ((.slice Ak lk ck)) := by rw [cell_of_block p1]; rfl
  have x1 : (W1).cell? ⟨w1.heap.size, 1, none⟩ = some ((.slice Av lv cv)) := by rw [cell_of_block p1]; rfl
  have x2 : (W1).cell? ⟨w1.heap.size, 2, none⟩ = some ((.slice Ac lc cc)) := by rw [cell_of_block p1]; rfl
  have x3 : (W1).cell? ⟨w1.heap.size, 3, none⟩ = some (.int .u64 sz) := by rw [cell_of_block p1]; rfl
  have y0 : (W1).cell? ⟨w.heap.size + 1, 0, none⟩ = some (.slice none 0 0) := by rw [cell_of_block r2]; rfl
  have y1 : (W1).cell? ⟨w.heap.size + 1, 1, none⟩ = some (.slice none 0 0) := by rw [cell_of_block r2]; rfl
  have y2 : (W1).cell? ⟨w.heap.size + 1, 2, none⟩ = some (.slice none 0 0) := by rw [cell_of_block r2]; rfl
  have y3 : (W1).cell? ⟨w.heap.size + 1, 3, none⟩ = some (.int .u64 0) := by rw [cell_of_block r2]; rfl
  have f0 : (W1).frozen? ⟨w.heap.size + 1, 0, none⟩ = false := frozen_of_block r2
  have f1 : (W1).frozen? ⟨w.heap.size + 1, 1, none⟩ = false := frozen_of_block r2
  have f2 : (W1).frozen? ⟨w.heap.size + 1, 2, none⟩ = false := frozen_of_block r2
  have f3 : (W1).frozen? ⟨w.heap.size + 1, 3, none⟩ = false := frozen_of_block r2
  clear r2 p1
  go_wp2_with fail
  have e5 := st4_heap (u0 := (.slice Ak lk ck)) (u1 := (.slice Av lv cv)) (u2 := (.slice Ac lc cc)) (u3 := .int .u64 sz) HB.out.2.2.1
  have B5 := st4_below (u0 := (.slice Ak lk ck)) (u1 := (.slice Av lv cv)) (u2 := (.slice Ac lc cc)) (u3 := .int .u64 sz) (b := w.heap.size + 1) HB.out.2.1 (by omega)
  have R5 := HB.out.1.lift (W' := ((((W1.setCell ⟨w.heap.size + 1, 0, none⟩ ((.slice Ak lk ck))).setCell ⟨w.heap.size + 1, 1, none⟩ ((.slice Av lv cv))).setCell ⟨w.heap.size + 1, 2, none⟩ ((.slice Ac lc cc))).setCell ⟨w.heap.size + 1, 3, none⟩ (.int .u64 sz))) (D' := w.heap.size) (by have := HG.out.2.2.2.2; omega) fun g hg _ => st4_other (by have := HG.out.2.2.2.2; omega)
  generalize ((((W1.setCell ⟨w.heap.size + 1, 0, none⟩ ((.slice Ak lk ck))).setCell ⟨w.heap.size + 1, 1, none⟩ ((.slice Av lv cv))).setCell ⟨w.heap.size + 1, 2, none⟩ ((.slice Ac lc cc))).setCell ⟨w.heap.size + 1, 3, none⟩ (.int .u64 sz)) = W9 at *
  have e0 : (W9).cell? ⟨w.heap.size + 1, 0, none⟩ = some ((.slice Ak lk ck)) := by rw [cell_of_block e5]; rfl
  have e1 : (W9).cell? ⟨w.heap.size + 1, 1, none⟩ = some ((.slice Av lv cv)) := by rw [cell_of_block e5]; rfl
  have e2 : (W9).cell? ⟨w.heap.size + 1, 2, none⟩ = some ((.slice Ac lc cc)) := by rw [cell_of_block e5]; rfl
  have e3 : (W9).cell? ⟨w.heap.size + 1, 3, none⟩ = some (.int .u64 sz) := by rw [cell_of_block e5]; rfl
  exact bodyPost_ret (v := .tuple #[.agg #[(.slice Ak lk ck), (.slice Av lv cv), (.slice Ac lc cc), .int .u64 sz], .bool true]) (by simp [results, Tryz.f189, go_sem, e0, e1, e2, e3]) rfl ⟨.slice Ak lk ck, .slice Av lv cv, .slice Ac lc cc, by rw [hsz]; rfl, by rw [hks, hvs, hcs]; exact R5, B5⟩
theorem bt_size {w : World} {ps : Nat} {S : St} {Y : Nat → Prop} (h : StOn w ps S Y) (hi : Inv S) {t hh : Nat} {n : BN} (hb : BnAt S t hh n) (hz : n.size < 4611686018427387904) :
    Calls Tryz.prog 158 #[trB ps t, .int .u64 hh] w fun e w' => e = .returned (.int .i64 n.size) ∧ Below w.heap.size w w' := by
  have B0 := (Below.refl w.heap.size w).alloc (Nat.le_refl _) (.cells #[PV ps, .int .i64 t] 221)
  have hg := bt_get (h.below B0) hi hb
  obtain ⟨sz, hsz⟩ : ∃ sz, n.size = sz := ⟨_, rfl⟩
  unfold trB bnV at hg
  unfold trB
  rw [hsz] at hz hg ⊢
  have hw : IntKind.i64.wrap (sz : Int) = (sz : Int) := IntWalk.i64_in _ (by omega)
  have HG := Lib.hid (And.intro hg B0)
  clear hg B0 h hi hb
  go_enter Tryz.func158, Tryz.ntmps158
  go_wp2_with fail
  refine HG.out.1.mono ?_
  rintro e w1 ⟨vk, vv, vc, rfl, rows, hb⟩
  obtain ⟨Ak, ck, rfl⟩ := rows.k.slice2
  obtain ⟨Av, cv, rfl⟩ := rows.v.slice2
  obtain ⟨Ac, cc, rfl⟩ := rows.c.slice2
  generalize n.keys.length = lk at *
  generalize n.vals.length = lv at *
  generalize n.kids.length = lc at *
  clear rows
  have HB := Lib.hid ((HG.out.2.trans (hb.mono HG.out.2.size)).alloc (Nat.le_trans HG.out.2.size hb.size) (.cells #[.slice Ak lk ck, .slice Av lv cv, .slice Ac lc cc, .int .u64 sz] 267))
  clear hb
  go_wp2_with fail
  go_ret
  exact ⟨rfl, HB.out⟩
end Go.Proofs.YtepdkbmnkjfcpaaGreatDoor
namespace Go.Proofs.YtepdkbmnkjfcpaaGreatDoor
open Go.RowKit Go.BigFrame Go.Maps Go.WideMaps Lf Tr
theorem bnode_get0 {w : World} {ps : Nat} {S : St} {Y : Nat → Prop} (h : StOn w ps S Y) (hi : Inv S) {t : Nat} (t1 : 2 ≤ t) (t2 : t ≤ 16) (hh : Nat) (hl : hh < 18446744073709551616) (hlen : S.len hh = (0, 7)) :
    Calls Tryz.prog 224 #[PV ps, .int .i64 t, .int .u64 hh] w fun e w' => e = .returned (.tuple #[bnV (.slice none 0 0) (.slice none 0 0) (.slice none 0 0) 0, .int .i64 7]) ∧ Below w.heap.size w w' := by
  have hle0 := fun W (hW : Below w.heap.size w W) => st_len (h.below hW) hi 0 (by omega)
  have hle1 := fun W (hW : Below w.heap.size w W) => st_len (h.below hW) hi hh hl
  rw [len_zero] at hle0
  rw [hlen] at hle1
  have his := fun W => isDeg_true t1 t2 ▸ bnode_is (t : Int) W
  have six := four_box w ps hh
  have HG := Lib.hid (And.intro hle0 (And.intro hle1 his))
  clear hle0 hle1 his h hi hlen
  unfold bnV
  generalize hw4 : ((((w.alloc (.cells #[PV ps] 25)).alloc (.cells #[.int .u64 hh] 43)).alloc (.cells #[.slice none 0 0, .slice none 0 0, .slice none 0 0, .int .u64 0] 267)).alloc (.cells #[.int .i64 0] 26)) = w4 at *
  have e3 := six.b3
  have e5 := six.b5
  have e6 := six.b6
  have e7 := six.b7
  have x0 : (w4).cell? ⟨w.heap.size, 0, none⟩ = some (PV ps) := by rw [cell_of_block e3]; rfl
  have y0 : (w4).cell? ⟨w.heap.size + 1, 0, none⟩ = some (.int .u64 hh) := by rw [cell_of_block e5]; rfl
  have z0 : (w4).cell? ⟨w.heap.size + 1 + 1, 0, none⟩ = some (.slice none 0 0) := by rw [cell_of_block e6]; rfl
  have z1 : (w4).cell? ⟨w.heap.size + 1 + 1, 1, none⟩ = some (.slice none 0 0) := by rw [cell_of_block e6]; rfl
  have z2 : (w4).cell? ⟨w.heap.size + 1 + 1, 2, none⟩ = some (.slice none 0 0) := by rw [cell_of_block e6]; rfl
  have z3 : (w4).cell? ⟨w.heap.size + 1 + 1, 3, none⟩ = some (.int .u64 0) := by rw [cell_of_block e6]; rfl
  have f0 : (w4).frozen? ⟨w.heap.size + 1 + 1, 0, none⟩ = false := frozen_of_block e6
  have f1 : (w4).frozen? ⟨w.heap.size + 1 + 1, 1, none⟩ = false := frozen_of_block e6
  have f2 : (w4).frozen? ⟨w.heap.size + 1 + 1, 2, none⟩ = false := frozen_of_block e6
  have f3 : (w4).frozen? ⟨w.heap.size + 1 + 1, 3, none⟩ = false := frozen_of_block e6
  have c0 : (w4).cell? ⟨w.heap.size + 1 + 1 + 1, 0, none⟩ = some (.int .i64 0) := by rw [cell_of_block e7]; rfl
  have g0 : (w4).frozen? ⟨w.heap.size + 1 + 1 + 1, 0, none⟩ = false := frozen_of_block e7
  have S4 := Lib.hid six
  clear e3 e5 e6 e7 six
  go_enter Tryz.func224, Tryz.ntmps224
  go_wp2_with fail
  refine (HG.out.1 _ S4.out.below).mono ?_
  rintro e w5 ⟨rfl, rfl⟩
  go_wp2_with fail
  refine (HG.out.2.2 _).mono ?_
  rintro e w5 ⟨rfl, rfl⟩
  go_wp2_with fail
  refine (HG.out.2.1 _ S4.out.below).mono ?_
  rintro e w5 ⟨rfl, rfl⟩
  go_wp2_with fail
  have p6 := st4_heap (u0 := .slice none 0 0) (u1 := .slice none 0 0) (u2 := .slice none 0 0) (u3 := .int .u64 0) S4.out.b6
  have B6 := st4_below (u0 := .slice none 0 0) (u1 := .slice none 0 0) (u2 := .slice none 0 0) (u3 := .int .u64 0) (b := w.heap.size + 1 + 1) S4.out.below (by omega)
  have p7 := (st4_other (w := w4) (b := w.heap.size + 1 + 1) (k := w.heap.size + 1 + 1 + 1) (u0 := .slice none 0 0) (u1 := .slice none 0 0) (u2 := .slice none 0 0) (u3 := .int .u64 0) (by omega)).trans S4.out.b7
  generalize ((((w4.setCell ⟨w.heap.size + 1 + 1, 0, none⟩ (.slice none 0 0)).setCell ⟨w.heap.size + 1 + 1, 1, none⟩ (.slice none 0 0)).setCell ⟨w.heap.size + 1 + 1, 2, none⟩ (.slice none 0 0)).setCell ⟨w.heap.size + 1 + 1, 3, none⟩ (.int .u64 0)) = W5 at *
  have r7 := heap_setCell (i := 0) (v := .int .i64 7) p7
  have r6 := (heap_setCell_ne (w := W5) (b := w.heap.size + 1 + 1 + 1) (i := 0) (v := .int .i64 7) (k := w.heap.size + 1 + 1) (by omega)).trans p6
  have B7 := B6.setCell (p := ⟨w.heap.size + 1 + 1 + 1, 0, none⟩) (by show w.heap.size ≤ w.heap.size + 1 + 1 + 1; omega) (.int .i64 7)
  generalize W5.setCell ⟨w.heap.size + 1 + 1 + 1, 0, none⟩ (.int .i64 7) = W6 at *
  have e0 : (W6).cell? ⟨w.heap.size + 1 + 1, 0, none⟩ = some (.slice none 0 0) := by rw [cell_of_block r6]; rfl
  have e1 : (W6).cell? ⟨w.heap.size + 1 + 1, 1, none⟩ = some (.slice none 0 0) := by rw [cell_of_block r6]; rfl
  have e2 : (W6).cell? ⟨w.heap.size + 1 + 1, 2, none⟩ = some (.slice none 0 0) := by rw [cell_of_block r6]; rfl
  have e3 : (W6).cell? ⟨w.heap.size + 1 + 1, 3, none⟩ = some (.int .u64 0) := by rw [cell_of_block r6]; rfl
  have d0 : W6.cell? ⟨w.heap.size + 1 + 1 + 1, 0, none⟩ = some (.int .i64 7) := by rw [cell_of_block r7]; rfl
  exact bodyPost_ret (v := .tuple #[.agg #[.slice none 0 0, .slice none 0 0, .slice none 0 0, .int .u64 0], .int .i64 7]) (by simp [results, Tryz.f224, go_sem, e0, e1, e2, e3, d0]) rfl ⟨rfl, B7⟩
theorem bt_get0 {w : World} {ps : Nat} {S : St} {Y : Nat → Prop} (h : StOn w ps S Y) (hi : Inv S) {t : Nat} (t1 : 2 ≤ t) (t2 : t ≤ 16) (hh : Nat) (hl : hh < 18446744073709551616) (hlen : S.len hh = (0, 7)) :
    Calls Tryz.prog 189 #[trB ps t, .int .u64 hh] w fun e w' => e = .returned (.tuple #[bnV (.slice none 0 0) (.slice none 0 0) (.slice none 0 0) 0, .bool false]) ∧ Below w.heap.size w w' := by
  have B0 := ((Below.refl w.heap.size w).alloc (Nat.le_refl _) (.cells #[PV ps, .int .i64 t] 221)).alloc (by simp) (.cells #[.slice none 0 0, .slice none 0 0, .slice none 0 0, .int .u64 0] 267)
  have z1 : (w.alloc (.cells #[PV ps, .int .i64 t] 221)).heap.size = w.heap.size + 1 := by simp
  have q1 := heap_alloc_new w (.cells #[PV ps, .int .i64 t] 221)
  have q2 := heap_alloc_new (w.alloc (.cells #[PV ps, .int .i64 t] 221)) (.cells #[.slice none 0 0, .slice none 0 0, .slice none 0 0, .int .u64 0] 267)
  have q3 := (((Below.refl (w.alloc (.cells #[PV ps, .int .i64 t] 221)).heap.size (w.alloc (.cells #[PV ps, .int .i64 t] 221))).alloc (Nat.le_refl _) (.cells #[.slice none 0 0, .slice none 0 0, .slice none 0 0, .int .u64 0] 267)).block w.heap.size (by simp)).trans q1
  rw [z1] at q2
  generalize hW : (w.alloc (.cells #[PV ps, .int .i64 t] 221)).alloc (.cells #[.slice none 0 0, .slice none 0 0, .slice none 0 0, .int .u64 0] 267) = W0 at *
  have hg := bnode_get0 (h.below B0) hi t1 t2 hh hl hlen
  have x0 : (W0).cell? ⟨w.heap.size, 0, none⟩ = some (PV ps) := by rw [cell_of_block q3]; rfl
  have x1 : (W0).cell? ⟨w.heap.size, 1, none⟩ = some (.int .i64 t) := by rw [cell_of_block q3]; rfl
  have hz : w.heap.size + 2 ≤ W0.heap.size := by rw [← hW]; simp
  unfold trB
  unfold bnV at hg ⊢
  have HG := Lib.hid (And.intro hg (And.intro B0 (And.intro q2 (And.intro hW hz))))
  clear hg B0 h hi q1 q2 q3 z1 hz hlen
  go_enter Tryz.func189, Tryz.ntmps189
  go_wp2_with fail
  refine HG.out.1.mono ?_
  rintro e w1 ⟨rfl, hb⟩
  have A1 := (Below.refl w1.heap.size w1).alloc (Nat.le_refl _) (.cells #[.slice none 0 0, .slice none 0 0, .slice none 0 0, .int .u64 0] 267)
  have p1 := heap_alloc_new w1 (.cells #[.slice none 0 0, .slice none 0 0, .slice none 0 0, .int .u64 0] 267)
  have r2 := (A1.block (w.heap.size + 1) (by have := hb.size; have := HG.out.2.2.2.2; omega)).trans ((hb.block (w.heap.size + 1) (by have := HG.out.2.2.2.2; omega)).trans HG.out.2.2.1)
  have BA := HG.out.2.1.trans ((hb.trans (A1.mono hb.size)).mono HG.out.2.1.size)
  have HB := Lib.hid (And.intro BA (And.intro r2 p1))
  clear hb A1 p1 r2 BA
  have r2 := HB.out.2.1
  have p1 := HB.out.2.2
  have x0 : ((w1.alloc (.cells #[.slice none 0 0, .slice none 0 0, .slice none 0 0, .int .u64 0] 267))).cell? ⟨w1.heap.size, 0, none⟩ = some (.slice none 0 0) := by rw [cell_of_block p1]; rfl
  have x1 : ((w1.alloc (.cells #[.slice none 0 0, .slice none 0 0, .slice none 0 0, .int .u64 0] 267))).cell? ⟨w1.heap.size, 1, none⟩ = some (.slice none 0 0) := by rw [cell_of_block p1]; rfl
  have x2 : ((w1.alloc (.cells #[.slice none 0 0, .slice none 0 0, .slice none 0 0, .int .u64 0] 267))).cell? ⟨w1.heap.size, 2, none⟩ = some (.slice none 0 0) := by rw [cell_of_block p1]; rfl
  have x3 : ((w1.alloc (.cells #[.slice none 0 0, .slice none 0 0, .slice none 0 0, .int .u64 0] 267))).cell? ⟨w1.heap.size, 3, none⟩ = some (.int .u64 0) := by rw [cell_of_block p1]; rfl
  have y0 : ((w1.alloc (.cells #[.slice none 0 0, .slice none 0 0, .slice none 0 0, .int .u64 0] 267))).cell? ⟨w.heap.size + 1, 0, none⟩ = some (.slice none 0 0) := by rw [cell_of_block r2]; rfl
  have y1 : ((w1.alloc (.cells #[.slice none 0 0, .slice none 0 0, .slice none 0 0, .int .u64 0] 267))).cell? ⟨w.heap.size + 1, 1, none⟩ = some (.slice none 0 0) := by rw [cell_of_block r2]; rfl
  have y2 : ((w1.alloc (.cells #[.slice none 0 0, .slice none 0 0, .slice none 0 0, .int .u64 0] 267))).cell? ⟨w.heap.size + 1, 2, none⟩ = some (.slice none 0 0) := by rw [cell_of_block r2]; rfl
  have y3 : ((w1.alloc (.cells #[.slice none 0 0, .slice none 0 0, .slice none 0 0, .int .u64 0] 267))).cell? ⟨w.heap.size + 1, 3, none⟩ = some (.int .u64 0) := by rw [cell_of_block r2]; rfl
  have f0 : ((w1.alloc (.cells #[.slice none 0 0, .slice none 0 0, .slice none 0 0, .int .u64 0] 267))).frozen? ⟨w.heap.size + 1, 0, none⟩ = false := frozen_of_block r2
  have f1 : ((w1.alloc (.cells #[.slice none 0 0, .slice none 0 0, .slice none 0 0, .int .u64 0] 267))).frozen? ⟨w.heap.size + 1, 1, none⟩ = false := frozen_of_block r2
  have f2 : ((w1.alloc (.cells #[.slice none 0 0, .slice none 0 0, .slice none 0 0, .int .u64 0] 267))).frozen? ⟨w.heap.size + 1, 2, none⟩ = false := frozen_of_block r2
  have f3 : ((w1.alloc (.cells #[.slice none 0 0, .slice none 0 0, .slice none 0 0, .int .u64 0] 267))).frozen? ⟨w.heap.size + 1, 3, none⟩ = false := frozen_of_block r2
  clear r2 p1 hW
  go_wp2_with fail
  generalize w1.alloc (.cells #[.slice none 0 0, .slice none 0 0, .slice none 0 0, .int .u64 0] 267) = W1 at *
  have e5 := st4_heap (u0 := .slice none 0 0) (u1 := .slice none 0 0) (u2 := .slice none 0 0) (u3 := .int .u64 0) HB.out.2.1
  have B5 := st4_below (u0 := .slice none 0 0) (u1 := .slice none 0 0) (u2 := .slice none 0 0) (u3 := .int .u64 0) (b := w.heap.size + 1) HB.out.1 (by omega)
  generalize ((((W1.setCell ⟨w.heap.size + 1, 0, none⟩ (.slice none 0 0)).setCell ⟨w.heap.size + 1, 1, none⟩ (.slice none 0 0)).setCell ⟨w.heap.size + 1, 2, none⟩ (.slice none 0 0)).setCell ⟨w.heap.size + 1, 3, none⟩ (.int .u64 0)) = W9 at *
  have e0 : (W9).cell? ⟨w.heap.size + 1, 0, none⟩ = some (.slice none 0 0) := by rw [cell_of_block e5]; rfl
  have e1 : (W9).cell? ⟨w.heap.size + 1, 1, none⟩ = some (.slice none 0 0) := by rw [cell_of_block e5]; rfl
  have e2 : (W9).cell? ⟨w.heap.size + 1, 2, none⟩ = some (.slice none 0 0) := by rw [cell_of_block e5]; rfl
  have e3 : (W9).cell? ⟨w.heap.size + 1, 3, none⟩ = some (.int .u64 0) := by rw [cell_of_block e5]; rfl
  exact bodyPost_ret (v := .tuple #[.agg #[.slice none 0 0, .slice none 0 0, .slice none 0 0, .int .u64 0], .bool false]) (by simp [results, Tryz.f189, go_sem, e0, e1, e2, e3]) rfl ⟨rfl, B5⟩
theorem bt_size0 {w : World} {ps : Nat} {S : St} {Y : Nat → Prop} (h : StOn w ps S Y) (hi : Inv S) {t : Nat} (t1 : 2 ≤ t) (t2 : t ≤ 16) (hh : Nat) (hl : hh < 18446744073709551616) (hlen : S.len hh = (0, 7)) :
    Calls Tryz.prog 158 #[trB ps t, .int .u64 hh] w fun e w' => e = .returned (.int .i64 0) ∧ Below w.heap.size w w' := by
  have B0 := (Below.refl w.heap.size w).alloc (Nat.le_refl _) (.cells #[PV ps, .int .i64 t] 221)
  have hg := bt_get0 (h.below B0) hi t1 t2 hh hl hlen
  unfold trB bnV at hg
  unfold trB
  have HG := Lib.hid (And.intro hg B0)
  clear hg B0 h hi hlen
  go_enter Tryz.func158, Tryz.ntmps158
  go_wp2_with fail
  refine HG.out.1.mono ?_
  rintro e w1 ⟨rfl, hb⟩
  have HB := Lib.hid ((HG.out.2.trans (hb.mono HG.out.2.size)).alloc (Nat.le_trans HG.out.2.size hb.size) (.cells #[.slice none 0 0, .slice none 0 0, .slice none 0 0, .int .u64 0] 267))
  clear hb
  go_wp2_with fail
  go_ret
  exact ⟨rfl, HB.out⟩
theorem bt_asked {w : World} {ps : Nat} {S : St} {Y : Nat → Prop} (h : StOn w ps S Y) (hi : Inv S) {t : Nat} (t1 : 2 ≤ t) (t2 : t ≤ 16) :
    Calls Tryz.prog 153 #[PV ps, .int .i64 t] w fun e w' => e = .returned (.int .i64 0) ∧ w = w' := by
  have hle := st_len h hi 0 (by omega)
  rw [len_zero] at hle
  have hwo := fun W => bnode_words t t1 t2 W
  have hq : ((6 * (t : Int)) == 0) = false := by simp; omega
  have hq2 : ¬ (t : Int) = 0 := by omega
  have HG := Lib.hid (And.intro hle hwo)
  clear hle hwo h hi
  go_enter Tryz.func153, Tryz.ntmps153
  go_wp2_with fail
  refine HG.out.1.mono ?_
  rintro e w1 ⟨rfl, rfl⟩
  go_wp2_with fail
  refine (HG.out.2 _).mono ?_
  rintro e w1 ⟨rfl, rfl⟩
  go_wp2_with fail
  go_ret
  exact ⟨rfl, rfl⟩
theorem btree_size {w : World} {ps t hh z : Nat} (hs : Calls Tryz.prog 158 #[trB ps t, .int .u64 hh] w fun e w' => e = .returned (.int .i64 z) ∧ Below w.heap.size w w') :
    Calls Tryz.prog 350 #[PV ps, .int .i64 t, .int .u64 hh] w fun e w' => e = .returned (.int .i64 z) ∧ Below w.heap.size w w' := by
  unfold trB at hs
  have HG := Lib.hid hs
  clear hs
  go_enter Tryz.func350, Tryz.ntmps350
  go_wp2_with fail
  refine HG.out.mono ?_
  rintro e w1 ⟨rfl, hb⟩
  have HB := Lib.hid hb
  clear hb
  go_wp2_with fail
  go_ret
  exact ⟨rfl, HB.out⟩
end Go.Proofs.YtepdkbmnkjfcpaaGreatDoor
