/- Maps: below, Floor, Ceiling, PutIfAbsent of a key that is there: the walks. Maps: the law's own map of two keys; what its checks say of it: the walks. -/
import Derived.Test.YtepdkbmnkjfcpaaGreatDoorGbq
import Derived.Test.YtepdkbmnkjfcpaaGreatDoorGbm
import Derived.Test.YtepdkbmnkjfcpaaGreatDoorGap
namespace Go.Proofs.YtepdkbmnkjfcpaaGreatDoor
open Go.RowKit Go.BigFrame Go.Maps Go.WideMaps Lf

theorem tree_get_none {w : World} {px ps kind root : Nat} {S : St} {Y : Nat → Prop} (h : StOn w ps S Y) (hi : Inv S) (hT : TreeOn w px ps kind root) (hl : root < 18446744073709551616) (k : List UInt8) {z : Nat} (hR : downM S k (Lf.limit S) root 0 = some (0, z)) :
    Calls Tryz.prog 18 #[PV px, SV k] w fun e w' => e = .returned (.tuple #[.string ⟨#[]⟩, .bool false]) ∧ Below w.heap.size w w' := by
  refine tree_get_nil hT k 0 0 fun W hW => ?_
  have := bin_find (h.below hW) hi kind root hl k hR (by simp)
  simpa [itV, getNode_zero, Nd.zero] using this
theorem tree_get_some {w : World} {px ps kind root : Nat} {S : St} {Y : Nat → Prop} (h : StOn w ps S Y) (hi : Inv S) (hT : TreeOn w px ps kind root) (hl : root < 18446744073709551616) (k : List UInt8) {R : Nat × Nat} (hR : downM S k (Lf.limit S) root 0 = some R) (hR0 : R.1 ≠ 0) (hR1 : R.1 < 18446744073709551616) {t : List UInt8} (ht : textM S (getNode S R.1).1.val = some t) :
    Calls Tryz.prog 18 #[PV px, SV k] w fun e w' => e = .returned (.tuple #[SV t, .bool true]) ∧ Below w.heap.size w w' := by
  obtain ⟨b1, b2⟩ := textM_some ht
  refine tree_get_yes hT k (getNode S R.1).1.key (getNode S R.1).1.val t (getBlob S (getNode S R.1).1.val).2 (fun W hW => ?_) fun W hW => ?_
  · have := blob_get (h.below hW) hi _ (getNode_lt h R.1).val b1
    rwa [b2] at this
  · have := bin_find (h.below hW) hi kind root hl k hR hR1
    simpa [itV, hR0] using this

set_option maxRecDepth 100000 in
set_option maxHeartbeats 800000 in
theorem map_below {w : World} {pm px ps limit kind root : Nat} {S : St} {Y : Nat → Prop} (h : StOn w ps S Y) (hi : Inv S) (hM : MapOn w pm px ps limit) (hT : TreeOn w px ps kind root) (hl : root < 18446744073709551616) (a : List UInt8) {n z : Nat} (hr : rankM S root a = some n) (hf : downM S a (Lf.limit S) root 0 = some (0, z)) :
    Calls Tryz.prog 83 #[PV pm, SV a] w fun e w' => e = .returned (.int .i64 ((n : Int) - 1)) ∧ Below w.heap.size w w' := by
  have hn := rankM_lt hr
  have hw : IntKind.i64.wrap ((n : Int) - 1) = (n : Int) - 1 := IntWalk.i64_in _ (by omega)
  have h1 := tree_rank h hi hT hl a hr
  have h2 := fun W (hW : Below w.heap.size w W) => tree_get_none (h.below hW) hi (hT.below hW) hl a hf
  have HG := Lib.hid (And.intro h1 (And.intro h2 hM))
  unfold MapOn at hM
  have c0 : (w).cell? ⟨pm, 0, none⟩ = some (PV ps) := by rw [cell_of_block hM]; rfl
  have c1 : (w).cell? ⟨pm, 1, none⟩ = some (PV px) := by rw [cell_of_block hM]; rfl
  have c2 : (w).cell? ⟨pm, 2, none⟩ = some (.int .i64 limit) := by rw [cell_of_block hM]; rfl
  clear h1 h2 hM h hi hT hr hf
  go_enter Tryz.func83, Tryz.ntmps83
  go_wp2_with fail
  refine HG.out.1.mono ?_
  rintro e w1 ⟨rfl, hb1⟩
  have hM1 := HG.out.2.2.below hb1
  unfold MapOn at hM1
  have d0 : (w1).cell? ⟨pm, 0, none⟩ = some (PV ps) := by rw [cell_of_block hM1]; rfl
  have d1 : (w1).cell? ⟨pm, 1, none⟩ = some (PV px) := by rw [cell_of_block hM1]; rfl
  have d2 : (w1).cell? ⟨pm, 2, none⟩ = some (.int .i64 limit) := by rw [cell_of_block hM1]; rfl
  have H1 := Lib.hid hb1
  clear hb1 hM1
  go_wp2_with fail
  refine (HG.out.2.1 _ H1.out).mono ?_
  rintro e w2 ⟨rfl, hb2⟩
  have H2 := Lib.hid (H1.out.trans (hb2.mono H1.out.size))
  clear hb2
  go_wp2_with fail
  go_ret
  exact ⟨rfl, H2.out⟩

set_option maxRecDepth 100000 in
set_option maxHeartbeats 800000 in
theorem map_floor_ok {w : World} {pm px ps limit kind root : Nat} {S : St} {Y : Nat → Prop} (h : StOn w ps S Y) (hi : Inv S) (hM : MapOn w pm px ps limit) (hT : TreeOn w px ps kind root) (hl : root < 18446744073709551616) (a : List UInt8) {n z : Nat} (hr : rankM S root a = some n) (hf : downM S a (Lf.limit S) root 0 = some (0, z)) (hn : 1 ≤ n) {p : List UInt8 × List UInt8} (hp : treeAtM S root (n - 1) = some p) :
    Calls Tryz.prog 35 #[PV pm, SV a] w fun e w' => e = .returned (.tuple #[prV p, .int .i64 0]) ∧ Below w.heap.size w w' := by
  have B0 := (Below.refl w.heap.size w).alloc (Nat.le_refl _) (.cells #[.string ⟨#[]⟩, .string ⟨#[]⟩] 38)
  have q0 := heap_alloc_new w (.cells #[.string ⟨#[]⟩, .string ⟨#[]⟩] 38)
  have h0 := h.below B0
  have M0 := hM.below B0
  have T0 := hT.below B0
  have hnl := rankM_lt hr
  have hat := map_at_ok M0 83 (fun args w => by go_simp) a ((n - 1 : Nat) : Int) p.1 p.2 (fun W hW => by
    have := map_below (h0.below hW) hi (M0.below hW) (T0.below hW) hl a hr hf
    rwa [show ((n : Int) - 1) = ((n - 1 : Nat) : Int) by omega] at this) (fun W hW => tree_at (h0.below hW) hi (T0.below hW) hl (n - 1) (by omega) hp)
  obtain ⟨p1, p2⟩ := p
  simp only [fnV, prV] at hat ⊢
  have HG := Lib.hid (And.intro hat (And.intro B0 q0))
  clear h0 M0 T0 h hM hT hi hat B0 q0
  go_enter Tryz.func35, Tryz.ntmps35
  go_wp2_with fail
  refine HG.out.1.mono ?_
  rintro e w1 ⟨rfl, hb⟩
  have q1 := (hb.block w.heap.size (by simp)).trans HG.out.2.2
  have c0 : (w1).cell? ⟨w.heap.size, 0, none⟩ = some (.string ⟨#[]⟩) := by rw [cell_of_block q1]; rfl
  have c1 : (w1).cell? ⟨w.heap.size, 1, none⟩ = some (.string ⟨#[]⟩) := by rw [cell_of_block q1]; rfl
  have f0 : (w1).frozen? ⟨w.heap.size, 0, none⟩ = false := frozen_of_block q1
  have f1 : (w1).frozen? ⟨w.heap.size, 1, none⟩ = false := frozen_of_block q1
  have q2 := st2_heap q1 (SV p1) (SV p2)
  have B2 := st2_below (HG.out.2.1.trans (hb.mono HG.out.2.1.size)) (Nat.le_refl _) (SV p1) (SV p2)
  have HB := Lib.hid (And.intro q2 B2)
  clear hb q1 q2 B2
  go_wp2_with fail
  obtain ⟨q2, B2⟩ := HB.out
  generalize ((w1.setCell ⟨w.heap.size, 0, none⟩ (SV p1)).setCell ⟨w.heap.size, 1, none⟩ (SV p2)) = w2 at *
  have e0 : (w2).cell? ⟨w.heap.size, 0, none⟩ = some (SV p1) := by rw [cell_of_block q2]; rfl
  have e1 : (w2).cell? ⟨w.heap.size, 1, none⟩ = some (SV p2) := by rw [cell_of_block q2]; rfl
  exact bodyPost_ret (v := .tuple #[.agg #[SV p1, SV p2], .int .i64 0]) (by simp [results, Tryz.f35, go_sem, e0, e1]) rfl ⟨rfl, B2⟩

set_option maxRecDepth 100000 in
set_option maxHeartbeats 800000 in
theorem map_floor_none {w : World} {pm px ps limit kind root : Nat} {S : St} {Y : Nat → Prop} (h : StOn w ps S Y) (hi : Inv S) (hM : MapOn w pm px ps limit) (hT : TreeOn w px ps kind root) (hl : root < 18446744073709551616) (a : List UInt8) {z : Nat} (hr : rankM S root a = some 0) (hf : downM S a (Lf.limit S) root 0 = some (0, z)) :
    Calls Tryz.prog 35 #[PV pm, SV a] w fun e w' => e = .returned (.tuple #[.agg #[.string ⟨#[]⟩, .string ⟨#[]⟩], .int .i64 5]) ∧ Below w.heap.size w w' := by
  have B0 := (Below.refl w.heap.size w).alloc (Nat.le_refl _) (.cells #[.string ⟨#[]⟩, .string ⟨#[]⟩] 38)
  have q0 := heap_alloc_new w (.cells #[.string ⟨#[]⟩, .string ⟨#[]⟩] 38)
  have h0 := h.below B0
  have M0 := hM.below B0
  have T0 := hT.below B0
  have hat := map_at_ref M0 83 (fun args w => by go_simp) a (-1) [] [] (fun W hW => by
    have := map_below (h0.below hW) hi (M0.below hW) (T0.below hW) hl a hr hf
    simpa using this) (fun W hW => by
    refine tree_at_ref (T0.below hW) (-1) 0 0 fun W' hW' => ?_
    have := bin_at_neg ((h0.below hW).below hW') hi kind root (-1) (by decide)
    simpa [itV, getNode_zero, Nd.zero] using this)
  simp only [fnV] at hat ⊢
  have HG := Lib.hid (And.intro hat (And.intro B0 q0))
  clear h0 M0 T0 h hM hT hi hat B0 q0
  go_enter Tryz.func35, Tryz.ntmps35
  go_wp2_with fail
  refine HG.out.1.mono ?_
  rintro e w1 ⟨rfl, hb⟩
  have q1 := (hb.block w.heap.size (by simp)).trans HG.out.2.2
  have c0 : (w1).cell? ⟨w.heap.size, 0, none⟩ = some (.string ⟨#[]⟩) := by rw [cell_of_block q1]; rfl
  have c1 : (w1).cell? ⟨w.heap.size, 1, none⟩ = some (.string ⟨#[]⟩) := by rw [cell_of_block q1]; rfl
  have f0 : (w1).frozen? ⟨w.heap.size, 0, none⟩ = false := frozen_of_block q1
  have f1 : (w1).frozen? ⟨w.heap.size, 1, none⟩ = false := frozen_of_block q1
  have q2 := st2_heap q1 (.string ⟨#[]⟩) (.string ⟨#[]⟩)
  have B2 := st2_below (HG.out.2.1.trans (hb.mono HG.out.2.1.size)) (Nat.le_refl _) (.string ⟨#[]⟩) (.string ⟨#[]⟩)
  have HB := Lib.hid (And.intro q2 B2)
  clear hb q1 q2 B2
  go_wp2_with fail
  obtain ⟨q2, B2⟩ := HB.out
  generalize ((w1.setCell ⟨w.heap.size, 0, none⟩ (.string ⟨#[]⟩)).setCell ⟨w.heap.size, 1, none⟩ (.string ⟨#[]⟩)) = w2 at *
  have e0 : (w2).cell? ⟨w.heap.size, 0, none⟩ = some (.string ⟨#[]⟩) := by rw [cell_of_block q2]; rfl
  have e1 : (w2).cell? ⟨w.heap.size, 1, none⟩ = some (.string ⟨#[]⟩) := by rw [cell_of_block q2]; rfl
  exact bodyPost_ret (v := .tuple #[.agg #[.string ⟨#[]⟩, .string ⟨#[]⟩], .int .i64 5]) (by simp [results, Tryz.f35, go_sem, e0, e1]) rfl ⟨rfl, B2⟩

set_option maxRecDepth 100000 in
set_option maxHeartbeats 800000 in
theorem map_ceiling_ok {w : World} {pm px ps limit kind root : Nat} {S : St} {Y : Nat → Prop} (h : StOn w ps S Y) (hi : Inv S) (hM : MapOn w pm px ps limit) (hT : TreeOn w px ps kind root) (hl : root < 18446744073709551616) (a : List UInt8) {n : Nat} (hr : rankM S root a = some n) {p : List UInt8 × List UInt8} (hp : treeAtM S root n = some p) :
    Calls Tryz.prog 36 #[PV pm, SV a] w fun e w' => e = .returned (.tuple #[prV p, .int .i64 0]) ∧ Below w.heap.size w w' := by
  have B0 := (Below.refl w.heap.size w).alloc (Nat.le_refl _) (.cells #[.string ⟨#[]⟩, .string ⟨#[]⟩] 38)
  have q0 := heap_alloc_new w (.cells #[.string ⟨#[]⟩, .string ⟨#[]⟩] 38)
  have h0 := h.below B0
  have M0 := hM.below B0
  have T0 := hT.below B0
  have hnl := rankM_lt hr
  have hat := map_at_ok M0 42 (fun args w => by go_simp) a (n : Int) p.1 p.2 (fun W hW => map_rank (h0.below hW) hi (M0.below hW) (T0.below hW) hl a hr) (fun W hW => tree_at (h0.below hW) hi (T0.below hW) hl n (by omega) hp)
  obtain ⟨p1, p2⟩ := p
  simp only [fnV, prV] at hat ⊢
  have HG := Lib.hid (And.intro hat (And.intro B0 q0))
  clear h0 M0 T0 h hM hT hi hat B0 q0
  go_enter Tryz.func36, Tryz.ntmps36
  go_wp2_with fail
  refine HG.out.1.mono ?_
  rintro e w1 ⟨rfl, hb⟩
  have q1 := (hb.block w.heap.size (by simp)).trans HG.out.2.2
  have c0 : (w1).cell? ⟨w.heap.size, 0, none⟩ = some (.string ⟨#[]⟩) := by rw [cell_of_block q1]; rfl
  have c1 : (w1).cell? ⟨w.heap.size, 1, none⟩ = some (.string ⟨#[]⟩) := by rw [cell_of_block q1]; rfl
  have f0 : (w1).frozen? ⟨w.heap.size, 0, none⟩ = false := frozen_of_block q1
  have f1 : (w1).frozen? ⟨w.heap.size, 1, none⟩ = false := frozen_of_block q1
  have q2 := st2_heap q1 (SV p1) (SV p2)
  have B2 := st2_below (HG.out.2.1.trans (hb.mono HG.out.2.1.size)) (Nat.le_refl _) (SV p1) (SV p2)
  have HB := Lib.hid (And.intro q2 B2)
  clear hb q1 q2 B2
  go_wp2_with fail
  obtain ⟨q2, B2⟩ := HB.out
  generalize ((w1.setCell ⟨w.heap.size, 0, none⟩ (SV p1)).setCell ⟨w.heap.size, 1, none⟩ (SV p2)) = w2 at *
  have e0 : (w2).cell? ⟨w.heap.size, 0, none⟩ = some (SV p1) := by rw [cell_of_block q2]; rfl
  have e1 : (w2).cell? ⟨w.heap.size, 1, none⟩ = some (SV p2) := by rw [cell_of_block q2]; rfl
  exact bodyPost_ret (v := .tuple #[.agg #[SV p1, SV p2], .int .i64 0]) (by simp [results, Tryz.f36, go_sem, e0, e1]) rfl ⟨rfl, B2⟩

set_option maxRecDepth 100000 in
set_option maxHeartbeats 800000 in
theorem map_absent_there {w : World} {pm px ps limit kind root : Nat} {S : St} {Y : Nat → Prop} (h : StOn w ps S Y) (hi : Inv S) (hM : MapOn w pm px ps limit) (hT : TreeOn w px ps kind root) (hl : root < 18446744073709551616) (a b : List UInt8) (ha : a.length ≤ limit) (hb : b.length ≤ limit) {R : Nat × Nat} (hR : downM S a (Lf.limit S) root 0 = some R) (hR0 : R.1 ≠ 0) (hR1 : R.1 < 18446744073709551616) {t : List UInt8} (ht : textM S (getNode S R.1).1.val = some t) :
    Calls Tryz.prog 40 #[PV pm, SV a, SV b] w fun e w' => e = .returned (.int .i64 6) ∧ Below w.heap.size w w' := by
  have HG := Lib.hid (And.intro (map_asked hM a b ha hb) (tree_get_some h hi hT hl a hR hR0 hR1 ht))
  unfold MapOn at hM
  have c0 : (w).cell? ⟨pm, 0, none⟩ = some (PV ps) := by rw [cell_of_block hM]; rfl
  have c1 : (w).cell? ⟨pm, 1, none⟩ = some (PV px) := by rw [cell_of_block hM]; rfl
  have c2 : (w).cell? ⟨pm, 2, none⟩ = some (.int .i64 limit) := by rw [cell_of_block hM]; rfl
  clear hM h hi hT ha hb hR ht
  go_enter Tryz.func40, Tryz.ntmps40
  go_wp2_with fail
  refine HG.out.1.mono ?_
  rintro e w1 ⟨rfl, rfl⟩
  go_wp2_with fail
  refine HG.out.2.mono ?_
  rintro e w2 ⟨rfl, hb2⟩
  have H2 := Lib.hid hb2
  clear hb2
  go_wp2_with fail
  go_ret
  exact ⟨rfl, H2.out⟩

end Go.Proofs.YtepdkbmnkjfcpaaGreatDoor

namespace Go.Proofs.YtepdkbmnkjfcpaaGreatDoor
open Go.RowKit Go.BigFrame Go.Maps Go.WideMaps Lf

/-- where the making of a map of a kind and a limit stands -/
structure MdK (kind limit : Nat) (w : World) (ps pm px : Nat) (S : St) (root : Nat) (Y : Nat → Prop) (wr : World) : Prop where
  st : StOn wr ps S Y
  inv : Inv S
  m : MapOn wr pm px ps limit
  t : TreeOn wr px ps kind root
  bl : Below w.heap.size w wr
  y : ∀ k, k < w.heap.size → Y k
  yx : Y px
  ym : Y pm
  nx : w.heap.size ≤ px
  ne : pm ≠ px
theorem MdK.next {kind limit : Nat} {w wr w' : World} {ps pm px root root' : Nat} {S S' : St} {Y : Nat → Prop} (h : MdK kind limit w ps pm px S root Y wr) (h1 : StOn w' ps S' Y) (h2 : Keep (fun k => Y k ∧ k ≠ px) wr w') (h3 : TreeOn w' px ps kind root') (h4 : Inv S') : MdK kind limit w ps pm px S' root' Y w' :=
  ⟨h1, h4, (h2.block pm ⟨h.ym, h.ne⟩).trans h.m, h3, ⟨h2.os.trans h.bl.os, h2.tape.trans h.bl.tape, h2.output.trans h.bl.output, Nat.le_trans h.bl.size h2.size, fun k hk => (h2.block k ⟨h.y k hk, by have := h.nx; omega⟩).trans (h.bl.block k hk)⟩, h.y, h.yx, h.ym, h.nx, h.ne⟩
theorem MdK.below {kind limit : Nat} {w wr w' : World} {ps pm px root : Nat} {S : St} {Y : Nat → Prop} (h : MdK kind limit w ps pm px S root Y wr) (hb : Below wr.heap.size wr w') : MdK kind limit w ps pm px S root Y w' :=
  ⟨h.st.below hb, h.inv, h.m.below hb, h.t.below hb, h.bl.trans (hb.mono h.bl.size), h.y, h.yx, h.ym, h.nx, h.ne⟩
theorem two_put1 {w wr : World} {ps pm px : Nat} {Y : Nat → Prop} (h : MdK 2 3 w ps pm px two0 0 Y wr) :
    Calls Tryz.prog 30 #[PV pm, SV [97], SV [120]] wr fun e w' => e = .returned (.tuple #[.string ⟨#[]⟩, .bool false, .int .i64 0]) ∧ MdK 2 3 w ps pm px two1 4294967299 Y w' := by
  refine (map_put h.st h.inv h.m h.t h.yx (by decide) kind_red [97] [120] (by decide) (by decide) two_ok1 two_run1).mono ?_
  rintro e w' ⟨rfl, h1, h2, h3, h4, -⟩
  exact ⟨rfl, h.next h1 h2 h3 h4⟩
theorem two_put2 {w wr : World} {ps pm px : Nat} {Y : Nat → Prop} (h : MdK 2 3 w ps pm px two1 4294967299 Y wr) :
    Calls Tryz.prog 30 #[PV pm, SV [99], SV [121]] wr fun e w' => e = .returned (.tuple #[.string ⟨#[]⟩, .bool false, .int .i64 0]) ∧ MdK 2 3 w ps pm px two2 4294967302 Y w' := by
  refine (map_put h.st h.inv h.m h.t h.yx (by decide) kind_red [99] [121] (by decide) (by decide) two_ok2 two_run2).mono ?_
  rintro e w' ⟨rfl, h1, h2, h3, h4, -⟩
  exact ⟨rfl, h.next h1 h2 h3 h4⟩
theorem pr_eql_ax (W : World) : (binOp .eql 38 (.agg #[SV [97], SV [120]]) (.agg #[SV [97], SV [120]])).run Tryz.prog W = .ok (.bool true) W := by kernel_rfl
theorem pr_eql_cy (W : World) : (binOp .eql 38 (.agg #[SV [99], SV [121]]) (.agg #[SV [99], SV [121]])).run Tryz.prog W = .ok (.bool true) W := by kernel_rfl

set_option maxRecDepth 100000 in
set_option maxHeartbeats 6400000 in
theorem awake20 {w : World} (ht : Tab64 w) :
    Calls Tryz.prog 29 #[] w fun e w' => e = .returned (.bool true) ∧ Below w.heap.size w w' := by
  have hsn := store_new ht 262144 1000 4294967295 (by omega) (by omega) (by omega)
  have hmn := fun W ps Y (hW : StOn W ps two0 Y) => map_new hW two_inv0 kind_red 0 3 (by omega)
  have HG := Lib.hid (And.intro hsn hmn)
  have hfl := fun {w0 wr : World} {ps pm px : Nat} {Y : Nat → Prop} (h : MdK 2 3 w0 ps pm px two2 4294967302 Y wr) => map_floor_ok h.st h.inv h.m h.t (by decide) [98] two_rank two_down (by decide) two_at0
  have hfn := fun {w0 wr : World} {ps pm px : Nat} {Y : Nat → Prop} (h : MdK 2 3 w0 ps pm px two2 4294967302 Y wr) => map_floor_none h.st h.inv h.m h.t (by decide) [65] two_rank0 two_down0
  have hce := fun {w0 wr : World} {ps pm px : Nat} {Y : Nat → Prop} (h : MdK 2 3 w0 ps pm px two2 4294967302 Y wr) => map_ceiling_ok h.st h.inv h.m h.t (by decide) [98] two_rank two_at1
  have hpl := fun {w0 wr : World} {ps pm px : Nat} {Y : Nat → Prop} (h : MdK 2 3 w0 ps pm px two2 4294967302 Y wr) => map_put_long h.m [97, 98, 99, 100] [120] (by decide)
  have hpa := fun {w0 wr : World} {ps pm px : Nat} {Y : Nat → Prop} (h : MdK 2 3 w0 ps pm px two2 4294967302 Y wr) => map_absent_there h.st h.inv h.m h.t (by decide) [97] [122] (by decide) (by decide) two_down1 (by decide) (by decide) two_val
  have HH := Lib.hid (And.intro (@hfl) (And.intro (@hfn) (And.intro (@hce) (And.intro (@hpl) (@hpa)))))
  clear hsn hmn hfl hfn hce hpl hpa ht
  go_enter Tryz.func29, Tryz.ntmps29
  go_wp2_with fail
  refine HG.out.1.mono ?_
  rintro e w1 ⟨ps, rfl, hs1, hb1⟩
  have H1 := Lib.hid (And.intro hs1 hb1)
  clear hs1 hb1
  go_wp2_with fail
  refine (HG.out.2 _ _ _ H1.out.1).mono ?_
  rintro e w2 ⟨pm, px, rfl, hM, hT, hb2, lm, lx, ne⟩
  have hm0 : MdK 2 3 w ps pm px two0 0 (fun k => k < w.heap.size ∨ (w1.heap.size ≤ k ∧ k < w2.heap.size)) w2 :=
    ⟨H1.out.1.wide hb2, two_inv0, hM, hT, H1.out.2.trans (hb2.mono H1.out.2.size), fun k hk => Or.inl hk, Or.inr ⟨lx, (Array.getElem?_eq_some_iff.1 hT).1⟩, Or.inr ⟨lm, (Array.getElem?_eq_some_iff.1 hM).1⟩, Nat.le_trans H1.out.2.size lx, ne⟩
  have HM := Lib.hid hm0
  clear hM hT hb2 lm lx ne hm0
  generalize (fun k => k < w.heap.size ∨ (w1.heap.size ≤ k ∧ k < w2.heap.size)) = Y at HM
  go_wp2_with fail
  refine (two_put1 HM.out).mono ?_
  rintro e w3 ⟨rfl, hm3⟩
  have H3 := Lib.hid hm3
  clear hm3
  go_wp2_with fail
  refine (two_put2 H3.out).mono ?_
  rintro e w4 ⟨rfl, hm4⟩
  have H4 := Lib.hid hm4
  clear hm4
  go_wp2_with fail
  refine (HH.out.1 H4.out).mono ?_
  rintro e w5 ⟨rfl, hb5⟩
  have H5 := Lib.hid (H4.out.below hb5)
  clear hb5
  simp only [prV]
  go_wp2_with fail
  have A5 := (Below.refl w5.heap.size w5).alloc (Nat.le_refl _) (.cells #[SV [97], SV [120]] 38)
  have q5 := heap_alloc_new w5 (.cells #[SV [97], SV [120]] 38)
  have M5 := H5.out.below A5
  refine (HH.out.2.2.1 M5).mono ?_
  rintro e w6 ⟨rfl, hb6⟩
  have q6 := (hb6.block w5.heap.size (by simp)).trans q5
  have H6 := Lib.hid (And.intro (M5.below hb6) q6)
  clear A5 q5 M5 hb6 q6
  simp only [prV]
  go_wp2_with fail
  have A6 := (Below.refl w6.heap.size w6).alloc (Nat.le_refl _) (.cells #[SV [99], SV [121]] 38)
  have q6 := heap_alloc_new w6 (.cells #[SV [99], SV [121]] 38)
  have p6 := (A6.block _ (Array.getElem?_eq_some_iff.1 H6.out.2).1).trans H6.out.2
  have M6 := H6.out.1.below A6
  refine (HH.out.2.1 M6).mono ?_
  rintro e w7 ⟨rfl, hb7⟩
  have q7 := (hb7.block w6.heap.size (by simp)).trans q6
  have p7 := (hb7.block _ (Array.getElem?_eq_some_iff.1 p6).1).trans p6
  have H7 := Lib.hid (And.intro (M6.below hb7) (And.intro q7 p7))
  clear A6 q6 p6 M6 hb7 q7 p7
  go_wp2_with fail
  have A7 := (Below.refl w7.heap.size w7).alloc (Nat.le_refl _) (.cells #[.string ⟨#[]⟩, .string ⟨#[]⟩] 38)
  have M7 := H7.out.1.below A7
  refine (HH.out.2.2.2.1 M7).mono ?_
  rintro e w8 ⟨rfl, e8⟩
  have q8 : w8.heap[w6.heap.size]? = _ := e8 ▸ (A7.block _ (Array.getElem?_eq_some_iff.1 H7.out.2.1).1).trans H7.out.2.1
  have p8 : w8.heap[w5.heap.size]? = _ := e8 ▸ (A7.block _ (Array.getElem?_eq_some_iff.1 H7.out.2.2).1).trans H7.out.2.2
  have c0 : (w8).cell? ⟨w6.heap.size, 0, none⟩ = some (SV [99]) := by rw [cell_of_block q8]; rfl
  have c1 : (w8).cell? ⟨w6.heap.size, 1, none⟩ = some (SV [121]) := by rw [cell_of_block q8]; rfl
  have d0 : (w8).cell? ⟨w5.heap.size, 0, none⟩ = some (SV [97]) := by rw [cell_of_block p8]; rfl
  have d1 : (w8).cell? ⟨w5.heap.size, 1, none⟩ = some (SV [120]) := by rw [cell_of_block p8]; rfl
  have H8 := Lib.hid (e8 ▸ M7 : MdK 2 3 w ps pm px two2 4294967302 Y w8)
  clear A7 M7 q8 p8 e8
  have ea := pr_eql_ax
  have ec := pr_eql_cy
  go_wp2_with fail
  refine (HH.out.2.2.2.2 H8.out).mono ?_
  rintro e w9 ⟨rfl, hb9⟩
  have H9 := Lib.hid (H8.out.below hb9)
  clear hb9
  go_wp2_with fail
  go_ret
  exact ⟨rfl, H9.out.bl⟩
end Go.Proofs.YtepdkbmnkjfcpaaGreatDoor
