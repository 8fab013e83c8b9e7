/- Without a store; keys found in trees; texts that are too long for a map: the walks. -/
import Derived.Test.YtoaabbnieakidaaGreatDoorRGbd
namespace Go.Proofs.YtoaabbnieakidaaGreatDoorR
open Go.RowKit Go.BigFrame Go.Maps Go.WideMaps Lf

set_option maxRecDepth 100000 in
set_option maxHeartbeats 800000 in
theorem nil_none (w : World) :
    Calls Tryz.prog 133 #[.pointer none] w fun e w' => e = .returned (.bool true) ∧ w = w' := by
  go_enter Tryz.func133, Tryz.ntmps133
  go_wp2_with fail
  go_ret
  exact ⟨rfl, rfl⟩

set_option maxRecDepth 100000 in
set_option maxHeartbeats 800000 in
theorem nil_at (h : Nat) (w : World) :
    Calls Tryz.prog 130 #[.pointer none, .int .u64 h] w fun e w' => e = .returned (.tuple #[.int .i64 0, .int .i64 0, .int .i64 1]) ∧ w = w' := by
  have HG := Lib.hid (nil_none w)
  go_enter Tryz.func130, Tryz.ntmps130
  go_wp2_with fail
  refine (HG.out).mono ?_
  rintro e w1 ⟨rfl, rfl⟩
  go_wp2_with fail
  go_ret3
  exact ⟨rfl, rfl⟩

set_option maxRecDepth 100000 in
set_option maxHeartbeats 800000 in
theorem nil_len (h : Nat) (w : World) :
    Calls Tryz.prog 100 #[.pointer none, .int .u64 h] w fun e w' => e = .returned (.tuple #[.int .i64 0, .int .i64 1]) ∧ w = w' := by
  have HG := Lib.hid (nil_at h w)
  go_enter Tryz.func100, Tryz.ntmps100
  go_wp2_with fail
  refine (HG.out).mono ?_
  rintro e w1 ⟨rfl, rfl⟩
  go_wp2_with fail
  go_ret2
  exact ⟨rfl, rfl⟩

set_option maxRecDepth 100000 in
set_option maxHeartbeats 800000 in
theorem nil_bulk_asked (kind t : Int) (w : World) :
    Calls Tryz.prog 126 #[.pointer none, .int .i64 kind, .int .i64 t] w fun e w' => e = .returned (.int .i64 1) ∧ w = w' := by
  have HG := Lib.hid (nil_len 0 w)
  go_enter Tryz.func126, Tryz.ntmps126
  go_wp2_with fail
  refine (HG.out).mono ?_
  rintro e w1 ⟨rfl, rfl⟩
  go_wp2_with fail
  go_ret
  exact ⟨rfl, rfl⟩

set_option maxRecDepth 100000 in
set_option maxHeartbeats 800000 in
theorem nil_bulk_check (kind t : Int) (root : Nat) (w : World) :
    Calls Tryz.prog 157 #[.pointer none, .int .i64 kind, .int .i64 t, .int .u64 root] w fun e w' => e = .returned (.int .i64 1) ∧ w = w' := by
  have HG := Lib.hid (nil_bulk_asked kind t w)
  go_enter Tryz.func157, Tryz.ntmps157
  go_wp2_with fail
  refine (HG.out).mono ?_
  rintro e w1 ⟨rfl, rfl⟩
  go_wp2_with fail
  go_ret
  exact ⟨rfl, rfl⟩

set_option maxRecDepth 100000 in
set_option maxHeartbeats 800000 in
theorem nil_open (kind t : Int) (root : Nat) (w : World) :
    Calls Tryz.prog 115 #[.pointer none, .int .i64 kind, .int .i64 t, .int .u64 root] w fun e w' => e = .returned (.tuple #[.pointer none, .int .i64 1]) ∧ w = w' := by
  have HG := Lib.hid (nil_bulk_check kind t root w)
  go_enter Tryz.func115, Tryz.ntmps115
  go_wp2_with fail
  refine (HG.out).mono ?_
  rintro e w1 ⟨rfl, rfl⟩
  go_wp2_with fail
  go_ret2
  exact ⟨rfl, rfl⟩

set_option maxRecDepth 100000 in
set_option maxHeartbeats 800000 in
theorem nil_new (kind t : Int) (w : World) :
    Calls Tryz.prog 80 #[.pointer none, .int .i64 kind, .int .i64 t] w fun e w' => e = .returned (.tuple #[.pointer none, .int .i64 1]) ∧ w = w' := by
  have HG := Lib.hid (nil_open kind t 0 w)
  go_enter Tryz.func80, Tryz.ntmps80
  go_wp2_with fail
  refine (HG.out).mono ?_
  rintro e w1 ⟨rfl, rfl⟩
  go_wp2_with fail
  go_ret2
  exact ⟨rfl, rfl⟩

set_option maxRecDepth 100000 in
set_option maxHeartbeats 800000 in
theorem nil_map_new (kind t limit : Int) (w : World) :
    Calls Tryz.prog 49 #[.pointer none, .int .i64 kind, .int .i64 t, .int .i64 limit] w fun e w' => e = .returned (.tuple #[.pointer none, .int .i64 1]) ∧ w = w' := by
  have HG := Lib.hid (nil_new kind t w)
  go_enter Tryz.func49, Tryz.ntmps49
  go_wp2_with fail
  refine (HG.out).mono ?_
  rintro e w1 ⟨rfl, rfl⟩
  go_wp2_with fail
  go_ret2
  exact ⟨rfl, rfl⟩

set_option maxRecDepth 100000 in
set_option maxHeartbeats 800000 in
theorem tree_none_nil (w : World) :
    Calls Tryz.prog 82 #[.pointer none] w fun e w' => e = .returned (.bool true) ∧ w = w' := by
  go_enter Tryz.func82, Tryz.ntmps82
  go_wp2_with fail
  go_ret
  exact ⟨rfl, rfl⟩

set_option maxRecDepth 100000 in
set_option maxHeartbeats 800000 in
theorem tree_check_nil (w : World) :
    Calls Tryz.prog 119 #[.pointer none] w fun e w' => e = .returned (.int .i64 1) ∧ w = w' := by
  have HG := Lib.hid (tree_none_nil w)
  go_enter Tryz.func119, Tryz.ntmps119
  go_wp2_with fail
  refine (HG.out).mono ?_
  rintro e w1 ⟨rfl, rfl⟩
  go_wp2_with fail
  go_ret
  exact ⟨rfl, rfl⟩

set_option maxRecDepth 100000 in
set_option maxHeartbeats 800000 in
theorem map_of_nil {w : World} {ps : Nat} {S : St} {Y : Nat → Prop} (h : StOn w ps S Y) (hi : Inv S) (limit : Int) :
    Calls Tryz.prog 81 #[PV ps, .pointer none, .int .i64 limit] w fun e w' => e = .returned (.tuple #[.pointer none, .int .i64 1]) ∧ w = w' := by
  have hlen := st_len h hi 0 (by omega)
  rw [len_zero] at hlen
  have HG := Lib.hid (And.intro hlen (tree_check_nil w))
  clear hlen h hi
  go_enter Tryz.func81, Tryz.ntmps81
  go_wp2_with fail
  refine (HG.out.1).mono ?_
  rintro e w1 ⟨rfl, rfl⟩
  go_wp2_with fail
  refine (HG.out.2).mono ?_
  rintro e w1 ⟨rfl, rfl⟩
  go_wp2_with fail
  go_ret2
  exact ⟨rfl, rfl⟩

set_option maxRecDepth 100000 in
set_option maxHeartbeats 800000 in
theorem map_asked_long {w : World} {pm px ps limit : Nat} (hM : MapOn w pm px ps limit) (a b : List UInt8) (ha : limit < a.length) :
    Calls Tryz.prog 51 #[PV pm, SV a, SV b] w fun e w' => e = .returned (.int .i64 4) ∧ w = w' := by
  have HG := Lib.hid (map_none hM)
  unfold MapOn at hM
  have c0 : (w).cell? ⟨pm, 0, none⟩ = some (PV ps) := by rw [cell_of_block hM]; rfl
  have c1 : (w).cell? ⟨pm, 1, none⟩ = some (PV px) := by rw [cell_of_block hM]; rfl
  have c2 : (w).cell? ⟨pm, 2, none⟩ = some (.int .i64 limit) := by rw [cell_of_block hM]; rfl
  have ha1 : ((limit : Int) < (a.length : Int)) = True := eq_true (by omega)
  clear hM ha
  go_enter Tryz.func51, Tryz.ntmps51
  go_wp2_with fail
  refine HG.out.mono ?_
  rintro e w1 ⟨rfl, rfl⟩
  go_wp2_with fail
  go_ret
  exact ⟨rfl, rfl⟩

set_option maxRecDepth 100000 in
set_option maxHeartbeats 800000 in
theorem map_put_long {w : World} {pm px ps limit : Nat} (hM : MapOn w pm px ps limit) (a b : List UInt8) (ha : limit < a.length) :
    Calls Tryz.prog 50 #[PV pm, SV a, SV b] w fun e w' => e = .returned (.tuple #[.string ⟨#[]⟩, .bool false, .int .i64 4]) ∧ w = w' := by
  have HG := Lib.hid (map_asked_long hM a b ha)
  clear hM ha
  go_enter Tryz.func50, Tryz.ntmps50
  go_wp2_with fail
  refine (HG.out).mono ?_
  rintro e w1 ⟨rfl, rfl⟩
  go_wp2_with fail
  go_ret3
  exact ⟨rfl, rfl⟩

set_option maxRecDepth 100000 in
set_option maxHeartbeats 800000 in
theorem walk_find {w : World} {ps : Nat} {S : St} {Y : Nat → Prop} (h : StOn w ps S Y) (hi : Inv S) (root : Nat) (hl : root < 18446744073709551616) (k : List UInt8) {R : Nat × Nat} (hR : downM S k (limit S) root 0 = some R) :
    Calls Tryz.prog 364 #[PV ps, .int .u64 root, SV k] w fun e w' => e = .returned (.tuple #[.int .u64 R.1, .bool (decide (R.1 ≠ 0))]) ∧ Below w.heap.size w w' := by
  have HG := Lib.hid (walk_down h hi root hl k hR)
  obtain ⟨a, b⟩ := R
  simp only at HG ⊢
  clear hR h hi
  go_enter Tryz.func364, Tryz.ntmps364
  go_wp2_with fail
  refine HG.out.mono ?_
  rintro e w1 ⟨rfl, hb⟩
  have HB := Lib.hid hb
  clear hb
  go_wp2_with fail
  go_ret2
  refine ⟨?_, HB.out⟩
  have : ((a : Int) != 0) = decide (a ≠ 0) := by by_cases e : a = 0 <;> simp [e] <;> omega
  rw [← this]
  rfl

set_option maxRecDepth 100000 in
set_option maxHeartbeats 800000 in
theorem bin_find {w : World} {ps : Nat} {S : St} {Y : Nat → Prop} (h : StOn w ps S Y) (hi : Inv S) (kind root : Nat) (hl : root < 18446744073709551616) (k : List UInt8) {R : Nat × Nat} (hR : downM S k (limit S) root 0 = some R) (hR1 : R.1 < 18446744073709551616) :
    Calls Tryz.prog 357 #[binV ps kind, .int .u64 root, SV k] w fun e w' => e = .returned (.tuple #[itV (getNode S R.1).1.key (getNode S R.1).1.val, .bool (decide (R.1 ≠ 0))]) ∧ Below w.heap.size w w' := by
  have B1 := (Below.refl w.heap.size w).alloc (Nat.le_refl _) (.cells #[PV ps, .int .i64 kind] 247)
  have q1 := heap_alloc_new w (.cells #[PV ps, .int .i64 kind] 247)
  have B0 := B1.alloc B1.size (.cells #[.int .u64 0, .int .u64 0] 126)
  have z1 := heap_alloc_new (w.alloc (.cells #[PV ps, .int .i64 kind] 247)) (.cells #[.int .u64 0, .int .u64 0] 126)
  have q1 := (((Below.refl (w.alloc (.cells #[PV ps, .int .i64 kind] 247)).heap.size (w.alloc (.cells #[PV ps, .int .i64 kind] 247))).alloc (Nat.le_refl _) (.cells #[.int .u64 0, .int .u64 0] 126)).block w.heap.size (by simp)).trans q1
  simp only [World.size_alloc] at z1
  have ha := walk_find (h.below B0) hi root hl k hR
  have hit := fun W (hW : Below w.heap.size w W) => bin_item (h.below hW) hi kind R.1 hR1
  simp only [itV, binV] at hit ⊢
  generalize (getNode S R.1).1.key = k0 at *
  generalize (getNode S R.1).1.val = k1 at *
  generalize decide (R.1 ≠ 0) = z at *
  have HG := Lib.hid (And.intro ha (And.intro hit (And.intro B0 (And.intro z1 q1))))
  clear ha hit B0 B1 h hi z1 q1
  go_enter Tryz.func357, Tryz.ntmps357
  go_wp2_with fail
  refine HG.out.1.mono ?_
  rintro e w1 ⟨rfl, hb1⟩
  have z1 := (hb1.block (w.heap.size + 1) (by simp)).trans HG.out.2.2.2.1
  have q1 := (hb1.block w.heap.size (by simp; omega)).trans HG.out.2.2.2.2
  have c0 : (w1).cell? ⟨w.heap.size, 0, none⟩ = some (PV ps) := by rw [cell_of_block q1]; rfl
  have c1 : (w1).cell? ⟨w.heap.size, 1, none⟩ = some (.int .i64 kind) := by rw [cell_of_block q1]; rfl
  have H1 := Lib.hid (And.intro (HG.out.2.2.1.trans (hb1.mono HG.out.2.2.1.size)) z1)
  clear hb1 z1 q1
  go_wp2_with fail
  refine (HG.out.2.1 _ H1.out.1).mono ?_
  rintro e w2 ⟨rfl, hb2⟩
  have z2 := (hb2.block (w.heap.size + 1) (Array.getElem?_eq_some_iff.1 H1.out.2).1).trans H1.out.2
  have d0 : (w2).cell? ⟨(w.heap.size + 1), 0, none⟩ = some (.int .u64 0) := by rw [cell_of_block z2]; rfl
  have d1 : (w2).cell? ⟨(w.heap.size + 1), 1, none⟩ = some (.int .u64 0) := by rw [cell_of_block z2]; rfl
  have f0 : (w2).frozen? ⟨(w.heap.size + 1), 0, none⟩ = false := frozen_of_block z2
  have f1 : (w2).frozen? ⟨(w.heap.size + 1), 1, none⟩ = false := frozen_of_block z2
  have HW := Lib.hid (And.intro (H1.out.1.trans (hb2.mono H1.out.1.size)) z2)
  clear hb2 z2 c0 c1
  go_wp2_with fail
  have q3 := st2_heap HW.out.2 (.int .u64 k0) (.int .u64 k1)
  have B3 := st2_below HW.out.1 (Nat.le_succ w.heap.size) (.int .u64 k0) (.int .u64 k1)
  generalize ((w2.setCell ⟨(w.heap.size + 1), 0, none⟩ (.int .u64 k0)).setCell ⟨(w.heap.size + 1), 1, none⟩ (.int .u64 k1)) = W3 at *
  have e0 : (W3).cell? ⟨(w.heap.size + 1), 0, none⟩ = some (.int .u64 k0) := by rw [cell_of_block q3]; rfl
  have e1 : (W3).cell? ⟨(w.heap.size + 1), 1, none⟩ = some (.int .u64 k1) := by rw [cell_of_block q3]; rfl
  exact bodyPost_ret (v := .tuple #[.agg #[.int .u64 k0, .int .u64 k1], .bool z]) (by simp [results, Tryz.f357, go_sem, e0, e1]) rfl ⟨rfl, B3⟩

set_option maxRecDepth 100000 in
set_option maxHeartbeats 800000 in
theorem bin_at_neg {w : World} {ps : Nat} {S : St} {Y : Nat → Prop} (h : StOn w ps S Y) (hi : Inv S) (kind root : Nat) (k : Int) (hk : k < 0) :
    Calls Tryz.prog 356 #[binV ps kind, .int .u64 root, .int .i64 k] w fun e w' => e = .returned (.tuple #[itV (getNode S 0).1.key (getNode S 0).1.val, .int .i64 2]) ∧ Below w.heap.size w w' := by
  have B1 := (Below.refl w.heap.size w).alloc (Nat.le_refl _) (.cells #[PV ps, .int .i64 kind] 247)
  have q1 := heap_alloc_new w (.cells #[PV ps, .int .i64 kind] 247)
  have B0 := B1.alloc B1.size (.cells #[.int .u64 0, .int .u64 0] 126)
  have z1 := heap_alloc_new (w.alloc (.cells #[PV ps, .int .i64 kind] 247)) (.cells #[.int .u64 0, .int .u64 0] 126)
  have q1 := (((Below.refl (w.alloc (.cells #[PV ps, .int .i64 kind] 247)).heap.size (w.alloc (.cells #[PV ps, .int .i64 kind] 247))).alloc (Nat.le_refl _) (.cells #[.int .u64 0, .int .u64 0] 126)).block w.heap.size (by simp)).trans q1
  simp only [World.size_alloc] at z1
  have ha := walk_at_neg (h.below B0) hi root k hk
  have hit := fun W (hW : Below w.heap.size w W) => bin_item (h.below hW) hi kind 0 (by decide)
  simp only [itV, binV] at hit ⊢
  generalize (getNode S 0).1.key = k0 at *
  generalize (getNode S 0).1.val = k1 at *
  have HG := Lib.hid (And.intro ha (And.intro hit (And.intro B0 (And.intro z1 q1))))
  clear ha hit B0 B1 h hi z1 q1
  go_enter Tryz.func356, Tryz.ntmps356
  go_wp2_with fail
  refine HG.out.1.mono ?_
  rintro e w1 ⟨rfl, rfl⟩
  have hb1 := Below.refl ((w.alloc (.cells #[PV ps, .int .i64 kind] 247)).alloc (.cells #[.int .u64 0, .int .u64 0] 126)).heap.size ((w.alloc (.cells #[PV ps, .int .i64 kind] 247)).alloc (.cells #[.int .u64 0, .int .u64 0] 126))
  generalize hw1 : (w.alloc (.cells #[PV ps, .int .i64 kind] 247)).alloc (.cells #[.int .u64 0, .int .u64 0] 126) = w1 at *
  have z1 := (hb1.block (w.heap.size + 1) (by rw [← hw1]; simp)).trans HG.out.2.2.2.1
  have q1 := (hb1.block w.heap.size (by rw [← hw1]; simp; omega)).trans HG.out.2.2.2.2
  have c0 : (w1).cell? ⟨w.heap.size, 0, none⟩ = some (PV ps) := by rw [cell_of_block q1]; rfl
  have c1 : (w1).cell? ⟨w.heap.size, 1, none⟩ = some (.int .i64 kind) := by rw [cell_of_block q1]; rfl
  have H1 := Lib.hid (And.intro (HG.out.2.2.1.trans (hb1.mono HG.out.2.2.1.size)) z1)
  clear hb1 z1 q1 hw1
  go_wp2_with fail
  refine (HG.out.2.1 _ H1.out.1).mono ?_
  rintro e w2 ⟨rfl, hb2⟩
  have z2 := (hb2.block (w.heap.size + 1) (Array.getElem?_eq_some_iff.1 H1.out.2).1).trans H1.out.2
  have d0 : (w2).cell? ⟨(w.heap.size + 1), 0, none⟩ = some (.int .u64 0) := by rw [cell_of_block z2]; rfl
  have d1 : (w2).cell? ⟨(w.heap.size + 1), 1, none⟩ = some (.int .u64 0) := by rw [cell_of_block z2]; rfl
  have f0 : (w2).frozen? ⟨(w.heap.size + 1), 0, none⟩ = false := frozen_of_block z2
  have f1 : (w2).frozen? ⟨(w.heap.size + 1), 1, none⟩ = false := frozen_of_block z2
  have HW := Lib.hid (And.intro (H1.out.1.trans (hb2.mono H1.out.1.size)) z2)
  clear hb2 z2 c0 c1
  go_wp2_with fail
  have q3 := st2_heap HW.out.2 (.int .u64 k0) (.int .u64 k1)
  have B3 := st2_below HW.out.1 (Nat.le_succ w.heap.size) (.int .u64 k0) (.int .u64 k1)
  generalize ((w2.setCell ⟨(w.heap.size + 1), 0, none⟩ (.int .u64 k0)).setCell ⟨(w.heap.size + 1), 1, none⟩ (.int .u64 k1)) = W3 at *
  have e0 : (W3).cell? ⟨(w.heap.size + 1), 0, none⟩ = some (.int .u64 k0) := by rw [cell_of_block q3]; rfl
  have e1 : (W3).cell? ⟨(w.heap.size + 1), 1, none⟩ = some (.int .u64 k1) := by rw [cell_of_block q3]; rfl
  exact bodyPost_ret (v := .tuple #[.agg #[.int .u64 k0, .int .u64 k1], .int .i64 2]) (by simp [results, Tryz.f356, go_sem, e0, e1]) rfl ⟨rfl, B3⟩

end Go.Proofs.YtoaabbnieakidaaGreatDoorR
