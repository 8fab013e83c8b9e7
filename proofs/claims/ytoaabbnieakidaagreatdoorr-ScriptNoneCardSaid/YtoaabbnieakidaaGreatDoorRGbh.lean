/- Maps: below, Floor, Ceiling, PutIfAbsent of a key that is there: the walks. Trees taken apart and put together: the last node, two trees, what is asked of a row of roots: the walks. -/
import Derived.Test.YtoaabbnieakidaaGreatDoorRGbg
import Derived.Test.YtoaabbnieakidaaGreatDoorRGau
namespace Go.Proofs.YtoaabbnieakidaaGreatDoorR
open Go.RowKit Go.BigFrame Go.Maps Go.WideMaps Lf

theorem tree_get_none {w : World} {px ps kind root : Nat} {S : St} {Y : Nat → Prop} (h : StOn w ps S Y) (hi : Inv S) (hT : TreeOn w px ps kind root) (hl : root < 18446744073709551616) (k : List UInt8) {z : Nat} (hR : downM S k (Lf.limit S) root 0 = some (0, z)) :
    Calls Tryz.prog 52 #[PV px, SV k] w fun e w' => e = .returned (.tuple #[.string ⟨#[]⟩, .bool false]) ∧ Below w.heap.size w w' := by
  refine tree_get_nil hT k 0 0 fun W hW => ?_
  have := bin_find (h.below hW) hi kind root hl k hR (by simp)
  simpa [itV, getNode_zero, Nd.zero] using this
theorem tree_get_some {w : World} {px ps kind root : Nat} {S : St} {Y : Nat → Prop} (h : StOn w ps S Y) (hi : Inv S) (hT : TreeOn w px ps kind root) (hl : root < 18446744073709551616) (k : List UInt8) {R : Nat × Nat} (hR : downM S k (Lf.limit S) root 0 = some R) (hR0 : R.1 ≠ 0) (hR1 : R.1 < 18446744073709551616) {t : List UInt8} (ht : textM S (getNode S R.1).1.val = some t) :
    Calls Tryz.prog 52 #[PV px, SV k] w fun e w' => e = .returned (.tuple #[SV t, .bool true]) ∧ Below w.heap.size w w' := by
  obtain ⟨b1, b2⟩ := textM_some ht
  refine tree_get_yes hT k (getNode S R.1).1.key (getNode S R.1).1.val t (getBlob S (getNode S R.1).1.val).2 (fun W hW => ?_) fun W hW => ?_
  · have := blob_get (h.below hW) hi _ (getNode_lt h R.1).val b1
    rwa [b2] at this
  · have := bin_find (h.below hW) hi kind root hl k hR hR1
    simpa [itV, hR0] using this

set_option maxRecDepth 100000 in
set_option maxHeartbeats 800000 in
theorem map_below {w : World} {pm px ps limit kind root : Nat} {S : St} {Y : Nat → Prop} (h : StOn w ps S Y) (hi : Inv S) (hM : MapOn w pm px ps limit) (hT : TreeOn w px ps kind root) (hl : root < 18446744073709551616) (a : List UInt8) {n z : Nat} (hr : rankM S root a = some n) (hf : downM S a (Lf.limit S) root 0 = some (0, z)) :
    Calls Tryz.prog 58 #[PV pm, SV a] w fun e w' => e = .returned (.int .i64 ((n : Int) - 1)) ∧ Below w.heap.size w w' := by
  have hn := rankM_lt hr
  have hw : IntKind.i64.wrap ((n : Int) - 1) = (n : Int) - 1 := IntWalk.i64_in _ (by omega)
  have h1 := tree_rank h hi hT hl a hr
  have h2 := fun W (hW : Below w.heap.size w W) => tree_get_none (h.below hW) hi (hT.below hW) hl a hf
  have HG := Lib.hid (And.intro h1 (And.intro h2 hM))
  unfold MapOn at hM
  have c0 : (w).cell? ⟨pm, 0, none⟩ = some (PV ps) := by rw [cell_of_block hM]; rfl
  have c1 : (w).cell? ⟨pm, 1, none⟩ = some (PV px) := by rw [cell_of_block hM]; rfl
  have c2 : (w).cell? ⟨pm, 2, none⟩ = some (.int .i64 limit) := by rw [cell_of_block hM]; rfl
  clear h1 h2 hM h hi hT hr hf
  go_enter Tryz.func58, Tryz.ntmps58
  go_wp2_with fail
  refine HG.out.1.mono ?_
  rintro e w1 ⟨rfl, hb1⟩
  have hM1 := HG.out.2.2.below hb1
  unfold MapOn at hM1
  have d0 : (w1).cell? ⟨pm, 0, none⟩ = some (PV ps) := by rw [cell_of_block hM1]; rfl
  have d1 : (w1).cell? ⟨pm, 1, none⟩ = some (PV px) := by rw [cell_of_block hM1]; rfl
  have d2 : (w1).cell? ⟨pm, 2, none⟩ = some (.int .i64 limit) := by rw [cell_of_block hM1]; rfl
  have H1 := Lib.hid hb1
  clear hb1 hM1
  go_wp2_with fail
  refine (HG.out.2.1 _ H1.out).mono ?_
  rintro e w2 ⟨rfl, hb2⟩
  have H2 := Lib.hid (H1.out.trans (hb2.mono H1.out.size))
  clear hb2
  go_wp2_with fail
  go_ret
  exact ⟨rfl, H2.out⟩

set_option maxRecDepth 100000 in
set_option maxHeartbeats 800000 in
theorem map_floor_ok {w : World} {pm px ps limit kind root : Nat} {S : St} {Y : Nat → Prop} (h : StOn w ps S Y) (hi : Inv S) (hM : MapOn w pm px ps limit) (hT : TreeOn w px ps kind root) (hl : root < 18446744073709551616) (a : List UInt8) {n z : Nat} (hr : rankM S root a = some n) (hf : downM S a (Lf.limit S) root 0 = some (0, z)) (hn : 1 ≤ n) {p : List UInt8 × List UInt8} (hp : treeAtM S root (n - 1) = some p) :
    Calls Tryz.prog 28 #[PV pm, SV a] w fun e w' => e = .returned (.tuple #[prV p, .int .i64 0]) ∧ Below w.heap.size w w' := by
  have B0 := (Below.refl w.heap.size w).alloc (Nat.le_refl _) (.cells #[.string ⟨#[]⟩, .string ⟨#[]⟩] 50)
  have q0 := heap_alloc_new w (.cells #[.string ⟨#[]⟩, .string ⟨#[]⟩] 50)
  have h0 := h.below B0
  have M0 := hM.below B0
  have T0 := hT.below B0
  have hnl := rankM_lt hr
  have hat := map_at_ok M0 58 (fun args w => by go_simp) a ((n - 1 : Nat) : Int) p.1 p.2 (fun W hW => by
    have := map_below (h0.below hW) hi (M0.below hW) (T0.below hW) hl a hr hf
    rwa [show ((n : Int) - 1) = ((n - 1 : Nat) : Int) by omega] at this) (fun W hW => tree_at (h0.below hW) hi (T0.below hW) hl (n - 1) (by omega) hp)
  obtain ⟨p1, p2⟩ := p
  simp only [fnV, prV] at hat ⊢
  have HG := Lib.hid (And.intro hat (And.intro B0 q0))
  clear h0 M0 T0 h hM hT hi hat B0 q0
  go_enter Tryz.func28, Tryz.ntmps28
  go_wp2_with fail
  refine HG.out.1.mono ?_
  rintro e w1 ⟨rfl, hb⟩
  have q1 := (hb.block w.heap.size (by simp)).trans HG.out.2.2
  have c0 : (w1).cell? ⟨w.heap.size, 0, none⟩ = some (.string ⟨#[]⟩) := by rw [cell_of_block q1]; rfl
  have c1 : (w1).cell? ⟨w.heap.size, 1, none⟩ = some (.string ⟨#[]⟩) := by rw [cell_of_block q1]; rfl
  have f0 : (w1).frozen? ⟨w.heap.size, 0, none⟩ = false := frozen_of_block q1
  have f1 : (w1).frozen? ⟨w.heap.size, 1, none⟩ = false := frozen_of_block q1
  have q2 := st2_heap q1 (SV p1) (SV p2)
  have B2 := st2_below (HG.out.2.1.trans (hb.mono HG.out.2.1.size)) (Nat.le_refl _) (SV p1) (SV p2)
  have HB := Lib.hid (And.intro q2 B2)
  clear hb q1 q2 B2
  go_wp2_with fail
  obtain ⟨q2, B2⟩ := HB.out
  generalize ((w1.setCell ⟨w.heap.size, 0, none⟩ (SV p1)).setCell ⟨w.heap.size, 1, none⟩ (SV p2)) = w2 at *
  have e0 : (w2).cell? ⟨w.heap.size, 0, none⟩ = some (SV p1) := by rw [cell_of_block q2]; rfl
  have e1 : (w2).cell? ⟨w.heap.size, 1, none⟩ = some (SV p2) := by rw [cell_of_block q2]; rfl
  exact bodyPost_ret (v := .tuple #[.agg #[SV p1, SV p2], .int .i64 0]) (by simp [results, Tryz.f28, go_sem, e0, e1]) rfl ⟨rfl, B2⟩

set_option maxRecDepth 100000 in
set_option maxHeartbeats 800000 in
theorem map_floor_none {w : World} {pm px ps limit kind root : Nat} {S : St} {Y : Nat → Prop} (h : StOn w ps S Y) (hi : Inv S) (hM : MapOn w pm px ps limit) (hT : TreeOn w px ps kind root) (hl : root < 18446744073709551616) (a : List UInt8) {z : Nat} (hr : rankM S root a = some 0) (hf : downM S a (Lf.limit S) root 0 = some (0, z)) :
    Calls Tryz.prog 28 #[PV pm, SV a] w fun e w' => e = .returned (.tuple #[.agg #[.string ⟨#[]⟩, .string ⟨#[]⟩], .int .i64 5]) ∧ Below w.heap.size w w' := by
  have B0 := (Below.refl w.heap.size w).alloc (Nat.le_refl _) (.cells #[.string ⟨#[]⟩, .string ⟨#[]⟩] 50)
  have q0 := heap_alloc_new w (.cells #[.string ⟨#[]⟩, .string ⟨#[]⟩] 50)
  have h0 := h.below B0
  have M0 := hM.below B0
  have T0 := hT.below B0
  have hat := map_at_ref M0 58 (fun args w => by go_simp) a (-1) [] [] (fun W hW => by
    have := map_below (h0.below hW) hi (M0.below hW) (T0.below hW) hl a hr hf
    simpa using this) (fun W hW => by
    refine tree_at_ref (T0.below hW) (-1) 0 0 fun W' hW' => ?_
    have := bin_at_neg ((h0.below hW).below hW') hi kind root (-1) (by decide)
    simpa [itV, getNode_zero, Nd.zero] using this)
  simp only [fnV] at hat ⊢
  have HG := Lib.hid (And.intro hat (And.intro B0 q0))
  clear h0 M0 T0 h hM hT hi hat B0 q0
  go_enter Tryz.func28, Tryz.ntmps28
  go_wp2_with fail
  refine HG.out.1.mono ?_
  rintro e w1 ⟨rfl, hb⟩
  have q1 := (hb.block w.heap.size (by simp)).trans HG.out.2.2
  have c0 : (w1).cell? ⟨w.heap.size, 0, none⟩ = some (.string ⟨#[]⟩) := by rw [cell_of_block q1]; rfl
  have c1 : (w1).cell? ⟨w.heap.size, 1, none⟩ = some (.string ⟨#[]⟩) := by rw [cell_of_block q1]; rfl
  have f0 : (w1).frozen? ⟨w.heap.size, 0, none⟩ = false := frozen_of_block q1
  have f1 : (w1).frozen? ⟨w.heap.size, 1, none⟩ = false := frozen_of_block q1
  have q2 := st2_heap q1 (.string ⟨#[]⟩) (.string ⟨#[]⟩)
  have B2 := st2_below (HG.out.2.1.trans (hb.mono HG.out.2.1.size)) (Nat.le_refl _) (.string ⟨#[]⟩) (.string ⟨#[]⟩)
  have HB := Lib.hid (And.intro q2 B2)
  clear hb q1 q2 B2
  go_wp2_with fail
  obtain ⟨q2, B2⟩ := HB.out
  generalize ((w1.setCell ⟨w.heap.size, 0, none⟩ (.string ⟨#[]⟩)).setCell ⟨w.heap.size, 1, none⟩ (.string ⟨#[]⟩)) = w2 at *
  have e0 : (w2).cell? ⟨w.heap.size, 0, none⟩ = some (.string ⟨#[]⟩) := by rw [cell_of_block q2]; rfl
  have e1 : (w2).cell? ⟨w.heap.size, 1, none⟩ = some (.string ⟨#[]⟩) := by rw [cell_of_block q2]; rfl
  exact bodyPost_ret (v := .tuple #[.agg #[.string ⟨#[]⟩, .string ⟨#[]⟩], .int .i64 5]) (by simp [results, Tryz.f28, go_sem, e0, e1]) rfl ⟨rfl, B2⟩

set_option maxRecDepth 100000 in
set_option maxHeartbeats 800000 in
theorem map_ceiling_ok {w : World} {pm px ps limit kind root : Nat} {S : St} {Y : Nat → Prop} (h : StOn w ps S Y) (hi : Inv S) (hM : MapOn w pm px ps limit) (hT : TreeOn w px ps kind root) (hl : root < 18446744073709551616) (a : List UInt8) {n : Nat} (hr : rankM S root a = some n) {p : List UInt8 × List UInt8} (hp : treeAtM S root n = some p) :
    Calls Tryz.prog 30 #[PV pm, SV a] w fun e w' => e = .returned (.tuple #[prV p, .int .i64 0]) ∧ Below w.heap.size w w' := by
  have B0 := (Below.refl w.heap.size w).alloc (Nat.le_refl _) (.cells #[.string ⟨#[]⟩, .string ⟨#[]⟩] 50)
  have q0 := heap_alloc_new w (.cells #[.string ⟨#[]⟩, .string ⟨#[]⟩] 50)
  have h0 := h.below B0
  have M0 := hM.below B0
  have T0 := hT.below B0
  have hnl := rankM_lt hr
  have hat := map_at_ok M0 32 (fun args w => by go_simp) a (n : Int) p.1 p.2 (fun W hW => map_rank (h0.below hW) hi (M0.below hW) (T0.below hW) hl a hr) (fun W hW => tree_at (h0.below hW) hi (T0.below hW) hl n (by omega) hp)
  obtain ⟨p1, p2⟩ := p
  simp only [fnV, prV] at hat ⊢
  have HG := Lib.hid (And.intro hat (And.intro B0 q0))
  clear h0 M0 T0 h hM hT hi hat B0 q0
  go_enter Tryz.func30, Tryz.ntmps30
  go_wp2_with fail
  refine HG.out.1.mono ?_
  rintro e w1 ⟨rfl, hb⟩
  have q1 := (hb.block w.heap.size (by simp)).trans HG.out.2.2
  have c0 : (w1).cell? ⟨w.heap.size, 0, none⟩ = some (.string ⟨#[]⟩) := by rw [cell_of_block q1]; rfl
  have c1 : (w1).cell? ⟨w.heap.size, 1, none⟩ = some (.string ⟨#[]⟩) := by rw [cell_of_block q1]; rfl
  have f0 : (w1).frozen? ⟨w.heap.size, 0, none⟩ = false := frozen_of_block q1
  have f1 : (w1).frozen? ⟨w.heap.size, 1, none⟩ = false := frozen_of_block q1
  have q2 := st2_heap q1 (SV p1) (SV p2)
  have B2 := st2_below (HG.out.2.1.trans (hb.mono HG.out.2.1.size)) (Nat.le_refl _) (SV p1) (SV p2)
  have HB := Lib.hid (And.intro q2 B2)
  clear hb q1 q2 B2
  go_wp2_with fail
  obtain ⟨q2, B2⟩ := HB.out
  generalize ((w1.setCell ⟨w.heap.size, 0, none⟩ (SV p1)).setCell ⟨w.heap.size, 1, none⟩ (SV p2)) = w2 at *
  have e0 : (w2).cell? ⟨w.heap.size, 0, none⟩ = some (SV p1) := by rw [cell_of_block q2]; rfl
  have e1 : (w2).cell? ⟨w.heap.size, 1, none⟩ = some (SV p2) := by rw [cell_of_block q2]; rfl
  exact bodyPost_ret (v := .tuple #[.agg #[SV p1, SV p2], .int .i64 0]) (by simp [results, Tryz.f30, go_sem, e0, e1]) rfl ⟨rfl, B2⟩

set_option maxRecDepth 100000 in
set_option maxHeartbeats 800000 in
theorem map_absent_there {w : World} {pm px ps limit kind root : Nat} {S : St} {Y : Nat → Prop} (h : StOn w ps S Y) (hi : Inv S) (hM : MapOn w pm px ps limit) (hT : TreeOn w px ps kind root) (hl : root < 18446744073709551616) (a b : List UInt8) (ha : a.length ≤ limit) (hb : b.length ≤ limit) {R : Nat × Nat} (hR : downM S a (Lf.limit S) root 0 = some R) (hR0 : R.1 ≠ 0) (hR1 : R.1 < 18446744073709551616) {t : List UInt8} (ht : textM S (getNode S R.1).1.val = some t) :
    Calls Tryz.prog 20 #[PV pm, SV a, SV b] w fun e w' => e = .returned (.int .i64 6) ∧ Below w.heap.size w w' := by
  have HG := Lib.hid (And.intro (map_asked hM a b ha hb) (tree_get_some h hi hT hl a hR hR0 hR1 ht))
  unfold MapOn at hM
  have c0 : (w).cell? ⟨pm, 0, none⟩ = some (PV ps) := by rw [cell_of_block hM]; rfl
  have c1 : (w).cell? ⟨pm, 1, none⟩ = some (PV px) := by rw [cell_of_block hM]; rfl
  have c2 : (w).cell? ⟨pm, 2, none⟩ = some (.int .i64 limit) := by rw [cell_of_block hM]; rfl
  clear hM h hi hT ha hb hR ht
  go_enter Tryz.func20, Tryz.ntmps20
  go_wp2_with fail
  refine HG.out.1.mono ?_
  rintro e w1 ⟨rfl, rfl⟩
  go_wp2_with fail
  refine HG.out.2.mono ?_
  rintro e w2 ⟨rfl, hb2⟩
  have H2 := Lib.hid hb2
  clear hb2
  go_wp2_with fail
  go_ret
  exact ⟨rfl, H2.out⟩

end Go.Proofs.YtoaabbnieakidaaGreatDoorR

namespace Go.Proofs.YtoaabbnieakidaaGreatDoorR
open Go.RowKit Go.BigFrame Go.Maps Go.WideMaps Lf

/-- the last node off a tree, where all is well: what is left, the node -/
def Lf.lastM (jn : Jn) : Nat → St → Nat → Option ((Nat × Nat) × St)
  | 0, S, root => match textM S (getNode S root).1.key with
    | none => none
    | some _ => some (((getNode S root).1.left, root), S)
  | f + 1, S, root => match textM S (getNode S root).1.key with
    | none => none
    | some _ =>
      if (getNode S root).1.right = 0 then some (((getNode S root).1.left, root), S)
      else match lastM jn f S (getNode S root).1.right with
        | none => none
        | some ((r, last), S1) => (cjoinM jn S1 (getNode S root).1.left root r).map fun x => ((x.1, last), x.2)
def Lf.concatM (jn : Jn) (S : St) (l r : Nat) : Option (Nat × St) :=
  if l = 0 then some (r, S)
  else match lastM jn 200 S l with
    | none => none
    | some ((left, m), S1) => cjoinM jn S1 left m r

set_option maxRecDepth 100000 in
set_option maxHeartbeats 6400000 in
theorem cut_last {ps : Nat} {j c : FuncId} {jn : Jn} (hjn : JoinsAs j jn) : ∀ (f d : Nat), d + f = 200 → ∀ {w : World} {S S' : St} {Y : Nat → Prop} {root l m : Nat}, StOn w ps S Y → Inv S → root < 18446744073709551616 →
    lastM jn f S root = some ((l, m), S') →
    (Calls Tryz.prog 376 #[cutV ps j c, .int .u64 root, .int .i64 d] w fun e w' => e = .returned (.tuple #[.int .u64 l, .int .u64 m]) ∧ StOn w' ps S' Y ∧ Keep Y w w') ∧ Inv S' ∧ l < 18446744073709551616 ∧ m < 18446744073709551616 := by
  intro f
  induction f with
  | zero =>
    intro d hd w S S' Y root l m h hi hl hs
    obtain rfl : d = 200 := by omega
    unfold lastM at hs
    split at hs
    · cases hs
    rename_i t ht
    have hs := Option.some.inj hs
    injection hs with e1 e2
    injection e1 with e1 e3
    subst e1 e2 e3
    have hlt := getNode_lt h root
    refine ⟨?_, hi, hlt.left, hl⟩
    have q0 := heap_alloc_new w (.cells #[PV ps, fnV j, fnV c] 343)
    have B0 := (Below.refl w.heap.size w).alloc (Nat.le_refl _) (.cells #[PV ps, fnV j, fnV c] 343)
    have hkey := fun W (hW : Below w.heap.size w W) => cut_key (j := j) (c := c) (h.below hW) hi root hl ht
    obtain ⟨⟨⟨k0, k1, k2, k3, k4, k5⟩, er⟩, hE⟩ : ∃ q, getNode S root = q := ⟨_, rfl⟩
    rw [hE] at hkey ⊢
    simp only [cutV, fnV, ndV] at q0 B0 hkey ⊢
    have HG := Lib.hid (And.intro hkey (And.intro q0 (And.intro B0 h)))
    clear hkey q0 B0 h hi hE ht hjn hlt hd
    go_enter Tryz.func376, Tryz.ntmps376
    go_wp2_with fail
    refine (HG.out.1 _ HG.out.2.2.1).mono ?_
    rintro e w1 ⟨rfl, hb1⟩
    have hal := hb1.alloc hb1.size (.cells #[.int .u64 k0, .int .u64 k1, .int .u64 k2, .int .u64 k3, .int .u64 k4, .int .u64 k5] 274)
    have q2 := heap_alloc_new w1 (.cells #[.int .u64 k0, .int .u64 k1, .int .u64 k2, .int .u64 k3, .int .u64 k4, .int .u64 k5] 274)
    have B2 := HG.out.2.2.1.trans (hal.mono HG.out.2.2.1.size)
    have d0 : ((w1.alloc (.cells #[.int .u64 k0, .int .u64 k1, .int .u64 k2, .int .u64 k3, .int .u64 k4, .int .u64 k5] 274))).cell? ⟨w1.heap.size, 0, none⟩ = some (.int .u64 k0) := by rw [cell_of_block q2]; rfl
    have d1 : ((w1.alloc (.cells #[.int .u64 k0, .int .u64 k1, .int .u64 k2, .int .u64 k3, .int .u64 k4, .int .u64 k5] 274))).cell? ⟨w1.heap.size, 1, none⟩ = some (.int .u64 k1) := by rw [cell_of_block q2]; rfl
    have d2 : ((w1.alloc (.cells #[.int .u64 k0, .int .u64 k1, .int .u64 k2, .int .u64 k3, .int .u64 k4, .int .u64 k5] 274))).cell? ⟨w1.heap.size, 2, none⟩ = some (.int .u64 k2) := by rw [cell_of_block q2]; rfl
    have d3 : ((w1.alloc (.cells #[.int .u64 k0, .int .u64 k1, .int .u64 k2, .int .u64 k3, .int .u64 k4, .int .u64 k5] 274))).cell? ⟨w1.heap.size, 3, none⟩ = some (.int .u64 k3) := by rw [cell_of_block q2]; rfl
    have d4 : ((w1.alloc (.cells #[.int .u64 k0, .int .u64 k1, .int .u64 k2, .int .u64 k3, .int .u64 k4, .int .u64 k5] 274))).cell? ⟨w1.heap.size, 4, none⟩ = some (.int .u64 k4) := by rw [cell_of_block q2]; rfl
    have d5 : ((w1.alloc (.cells #[.int .u64 k0, .int .u64 k1, .int .u64 k2, .int .u64 k3, .int .u64 k4, .int .u64 k5] 274))).cell? ⟨w1.heap.size, 5, none⟩ = some (.int .u64 k5) := by rw [cell_of_block q2]; rfl
    have H2 := Lib.hid B2
    clear hb1 hal q2 B2
    by_cases h3 : k3 = 0
    · subst h3
      go_wp2_with fail
      try go_quiet (fail)
      try go_wp2_with fail
      go_ret2
      exact ⟨rfl, HG.out.2.2.2.below H2.out, HG.out.2.2.2.keep H2.out⟩
    · have hq : ((k3 : Int) == 0) = false := by simp; omega
      go_wp2_with fail
      try go_quiet (fail)
      try go_wp2_with fail
      go_ret2
      exact ⟨rfl, HG.out.2.2.2.below H2.out, HG.out.2.2.2.keep H2.out⟩
  | succ f ih =>
    intro d hd w S S' Y root l m h hi hl hs
    have hdq : ((d : Int) == 200) = false := by simp; omega
    have hdw : IntKind.i64.wrap ((d : Int) + 1) = (d : Int) + 1 := IntWalk.i64_in _ (by omega)
    have hlt := getNode_lt h root
    have q0 := heap_alloc_new w (.cells #[PV ps, fnV j, fnV c] 343)
    have B0 := (Below.refl w.heap.size w).alloc (Nat.le_refl _) (.cells #[PV ps, fnV j, fnV c] 343)
    unfold lastM at hs
    split at hs
    · cases hs
    rename_i t ht
    have hkey := fun W (hW : Below w.heap.size w W) => cut_key (j := j) (c := c) (h.below hW) hi root hl ht
    split at hs
    · rename_i h0
      have hs := Option.some.inj hs
      injection hs with e1 e2
      injection e1 with e1 e3
      subst e1 e2 e3
      refine ⟨?_, hi, hlt.left, hl⟩
      obtain ⟨⟨⟨k0, k1, k2, k3, k4, k5⟩, er⟩, hE⟩ : ∃ q, getNode S root = q := ⟨_, rfl⟩
      rw [hE] at hkey h0 ⊢
      simp only at h0
      subst h0
      simp only [cutV, fnV, ndV] at q0 B0 hkey ⊢
      have HG := Lib.hid (And.intro hkey (And.intro q0 (And.intro B0 h)))
      clear hkey q0 B0 h hi hE ht hjn hlt hd ih
      go_enter Tryz.func376, Tryz.ntmps376
      go_wp2_with fail
      refine (HG.out.1 _ HG.out.2.2.1).mono ?_
      rintro e w1 ⟨rfl, hb1⟩
      have hal := hb1.alloc hb1.size (.cells #[.int .u64 k0, .int .u64 k1, .int .u64 k2, .int .u64 (0 : Nat), .int .u64 k4, .int .u64 k5] 274)
      have q2 := heap_alloc_new w1 (.cells #[.int .u64 k0, .int .u64 k1, .int .u64 k2, .int .u64 (0 : Nat), .int .u64 k4, .int .u64 k5] 274)
      have B2 := HG.out.2.2.1.trans (hal.mono HG.out.2.2.1.size)
      have d0 : ((w1.alloc (.cells #[.int .u64 k0, .int .u64 k1, .int .u64 k2, .int .u64 (0 : Nat), .int .u64 k4, .int .u64 k5] 274))).cell? ⟨w1.heap.size, 0, none⟩ = some (.int .u64 k0) := by rw [cell_of_block q2]; rfl
      have d1 : ((w1.alloc (.cells #[.int .u64 k0, .int .u64 k1, .int .u64 k2, .int .u64 (0 : Nat), .int .u64 k4, .int .u64 k5] 274))).cell? ⟨w1.heap.size, 1, none⟩ = some (.int .u64 k1) := by rw [cell_of_block q2]; rfl
      have d2 : ((w1.alloc (.cells #[.int .u64 k0, .int .u64 k1, .int .u64 k2, .int .u64 (0 : Nat), .int .u64 k4, .int .u64 k5] 274))).cell? ⟨w1.heap.size, 2, none⟩ = some (.int .u64 k2) := by rw [cell_of_block q2]; rfl
      have d3 : ((w1.alloc (.cells #[.int .u64 k0, .int .u64 k1, .int .u64 k2, .int .u64 (0 : Nat), .int .u64 k4, .int .u64 k5] 274))).cell? ⟨w1.heap.size, 3, none⟩ = some (.int .u64 (0 : Nat)) := by rw [cell_of_block q2]; rfl
      have d4 : ((w1.alloc (.cells #[.int .u64 k0, .int .u64 k1, .int .u64 k2, .int .u64 (0 : Nat), .int .u64 k4, .int .u64 k5] 274))).cell? ⟨w1.heap.size, 4, none⟩ = some (.int .u64 k4) := by rw [cell_of_block q2]; rfl
      have d5 : ((w1.alloc (.cells #[.int .u64 k0, .int .u64 k1, .int .u64 k2, .int .u64 (0 : Nat), .int .u64 k4, .int .u64 k5] 274))).cell? ⟨w1.heap.size, 5, none⟩ = some (.int .u64 k5) := by rw [cell_of_block q2]; rfl
      have H2 := Lib.hid B2
      clear hb1 hal q2 B2
      go_wp2_with fail
      try go_quiet (fail)
      try go_wp2_with fail
      go_ret2
      exact ⟨rfl, HG.out.2.2.2.below H2.out, HG.out.2.2.2.keep H2.out⟩
    · rename_i h0
      split at hs
      · cases hs
      rename_i r1 m1 S1 h1
      obtain ⟨⟨x, S2⟩, hj1, he⟩ := Option.map_eq_some_iff.1 hs
      injection he with e1 e2
      injection e1 with e1 e3
      simp only at e1 e3 hj1
      subst e1 e2 e3
      have hrec := fun W Z (hW : StOn W ps S Z) => (ih (d + 1) (by omega) hW hi hlt.right h1).1
      obtain ⟨-, hi1, hr1, hm1⟩ := ih (d + 1) (by omega) h hi hlt.right h1
      have hjs := cjoinM_some hjn hj1
      have hjoin := fun W Z (hW : StOn W ps S1 Z) => cut_join (c := c) hW hi1 hjn (getNode S root).1.left root r1 hlt.left hl hr1 hj1
      refine ⟨?_, hjn.inv hi1 hjs, by rcases hjn.mem hi1 hjs with e | e | e <;> simp only at e <;> first | (rw [e]; exact hl) | (rw [e]; exact hr1) | (rw [e]; exact hlt.left), hm1⟩
      obtain ⟨⟨⟨k0, k1, k2, k3, k4, k5⟩, er⟩, hE⟩ : ∃ q, getNode S root = q := ⟨_, rfl⟩
      rw [hE] at hkey hlt hrec hjoin h0
      simp only at hlt hrec hjoin h0
      have hq : ((k3 : Int) == 0) = false := by simp; omega
      simp only [cutV, fnV, ndV] at q0 B0 hkey hrec hjoin ⊢
      have HG := Lib.hid (And.intro hkey (And.intro q0 (And.intro B0 (And.intro hrec (And.intro hjoin h)))))
      clear hkey q0 B0 hrec hjoin h hi hE ht h1 hs hj1 hi1 hjn ih hd h0 hlt hr1 hm1 hjs hl
      go_enter Tryz.func376, Tryz.ntmps376
      go_wp2_with fail
      refine (HG.out.1 _ HG.out.2.2.1).mono ?_
      rintro e w1 ⟨rfl, hb1⟩
      have hal := hb1.alloc hb1.size (.cells #[.int .u64 k0, .int .u64 k1, .int .u64 k2, .int .u64 k3, .int .u64 k4, .int .u64 k5] 274)
      have q2 := heap_alloc_new w1 (.cells #[.int .u64 k0, .int .u64 k1, .int .u64 k2, .int .u64 k3, .int .u64 k4, .int .u64 k5] 274)
      have r2 := (hal.block w.heap.size (by simp)).trans HG.out.2.1
      have hlt1 : w.heap.size ≤ w1.heap.size := by have := hb1.size; simp at this; omega
      have B2 := HG.out.2.2.1.trans (hal.mono HG.out.2.2.1.size)
      have d0 : ((w1.alloc (.cells #[.int .u64 k0, .int .u64 k1, .int .u64 k2, .int .u64 k3, .int .u64 k4, .int .u64 k5] 274))).cell? ⟨w1.heap.size, 0, none⟩ = some (.int .u64 k0) := by rw [cell_of_block q2]; rfl
      have d1 : ((w1.alloc (.cells #[.int .u64 k0, .int .u64 k1, .int .u64 k2, .int .u64 k3, .int .u64 k4, .int .u64 k5] 274))).cell? ⟨w1.heap.size, 1, none⟩ = some (.int .u64 k1) := by rw [cell_of_block q2]; rfl
      have d2 : ((w1.alloc (.cells #[.int .u64 k0, .int .u64 k1, .int .u64 k2, .int .u64 k3, .int .u64 k4, .int .u64 k5] 274))).cell? ⟨w1.heap.size, 2, none⟩ = some (.int .u64 k2) := by rw [cell_of_block q2]; rfl
      have d3 : ((w1.alloc (.cells #[.int .u64 k0, .int .u64 k1, .int .u64 k2, .int .u64 k3, .int .u64 k4, .int .u64 k5] 274))).cell? ⟨w1.heap.size, 3, none⟩ = some (.int .u64 k3) := by rw [cell_of_block q2]; rfl
      have d4 : ((w1.alloc (.cells #[.int .u64 k0, .int .u64 k1, .int .u64 k2, .int .u64 k3, .int .u64 k4, .int .u64 k5] 274))).cell? ⟨w1.heap.size, 4, none⟩ = some (.int .u64 k4) := by rw [cell_of_block q2]; rfl
      have d5 : ((w1.alloc (.cells #[.int .u64 k0, .int .u64 k1, .int .u64 k2, .int .u64 k3, .int .u64 k4, .int .u64 k5] 274))).cell? ⟨w1.heap.size, 5, none⟩ = some (.int .u64 k5) := by rw [cell_of_block q2]; rfl
      have c0 : ((w1.alloc (.cells #[.int .u64 k0, .int .u64 k1, .int .u64 k2, .int .u64 k3, .int .u64 k4, .int .u64 k5] 274))).cell? ⟨w.heap.size, 0, none⟩ = some (PV ps) := by rw [cell_of_block r2]; rfl
      have c1 : ((w1.alloc (.cells #[.int .u64 k0, .int .u64 k1, .int .u64 k2, .int .u64 k3, .int .u64 k4, .int .u64 k5] 274))).cell? ⟨w.heap.size, 1, none⟩ = some (.func (.func j) #[] #[]) := by rw [cell_of_block r2]; rfl
      have c2 : ((w1.alloc (.cells #[.int .u64 k0, .int .u64 k1, .int .u64 k2, .int .u64 k3, .int .u64 k4, .int .u64 k5] 274))).cell? ⟨w.heap.size, 2, none⟩ = some (.func (.func c) #[] #[]) := by rw [cell_of_block r2]; rfl
      have l8 := (Array.getElem?_eq_some_iff.1 r2).1
      have l12 := (Array.getElem?_eq_some_iff.1 q2).1
      have H2 := Lib.hid (And.intro B2 (And.intro r2 q2))
      have hle12 := Lib.hid hlt1
      clear hb1 hal q2 r2 B2 hlt1
      go_wp2_with fail
      generalize w1.alloc (.cells #[.int .u64 k0, .int .u64 k1, .int .u64 k2, .int .u64 k3, .int .u64 k4, .int .u64 k5] 274) = W at *
      generalize w1.heap.size = b12 at *
      refine (HG.out.2.2.2.1 _ _ (HG.out.2.2.2.2.2.wide H2.out.1)).mono ?_
      rintro e w3 ⟨rfl, h3, k3'⟩
      have r3 := (k3'.block w.heap.size (Or.inr ⟨Nat.le_refl _, l8⟩)).trans H2.out.2.1
      have q3 := (k3'.block b12 (Or.inr ⟨hle12.out, l12⟩)).trans H2.out.2.2
      have e0 : (w3).cell? ⟨w.heap.size, 0, none⟩ = some (PV ps) := by rw [cell_of_block r3]; rfl
      have e1 : (w3).cell? ⟨w.heap.size, 1, none⟩ = some (.func (.func j) #[] #[]) := by rw [cell_of_block r3]; rfl
      have e2 : (w3).cell? ⟨w.heap.size, 2, none⟩ = some (.func (.func c) #[] #[]) := by rw [cell_of_block r3]; rfl
      have g0 : (w3).cell? ⟨b12, 0, none⟩ = some (.int .u64 k0) := by rw [cell_of_block q3]; rfl
      have g1 : (w3).cell? ⟨b12, 1, none⟩ = some (.int .u64 k1) := by rw [cell_of_block q3]; rfl
      have g2 : (w3).cell? ⟨b12, 2, none⟩ = some (.int .u64 k2) := by rw [cell_of_block q3]; rfl
      have g3 : (w3).cell? ⟨b12, 3, none⟩ = some (.int .u64 k3) := by rw [cell_of_block q3]; rfl
      have g4 : (w3).cell? ⟨b12, 4, none⟩ = some (.int .u64 k4) := by rw [cell_of_block q3]; rfl
      have g5 : (w3).cell? ⟨b12, 5, none⟩ = some (.int .u64 k5) := by rw [cell_of_block q3]; rfl
      have H3 := Lib.hid (And.intro h3 k3')
      clear h3 k3' r3 q3 c0 c1 c2 d0 d1 d2 d3 d4 d5
      go_wp2_with fail
      refine (HG.out.2.2.2.2.1 _ _ H3.out.1).mono ?_
      rintro e w4 ⟨rfl, h4, k4'⟩
      have H4 := Lib.hid (And.intro (h4.mono (Z := Y) fun k hk => Or.inl hk) ((Keep.of_below H2.out.1 HG.out.2.2.2.2.2.yl).trans ((H3.out.2.trans k4').mono fun k hk => Or.inl hk)))
      clear h4 k4' e0 e1 e2 g0 g1 g2 g3 g4 g5
      go_wp2_with fail
      go_ret2
      exact ⟨rfl, H4.out⟩

set_option maxRecDepth 100000 in
set_option maxHeartbeats 1600000 in
theorem cut_concat {w : World} {ps : Nat} {S S' : St} {Y : Nat → Prop} (h : StOn w ps S Y) (hi : Inv S) {j c : FuncId} {jn : Jn} (hjn : JoinsAs j jn) (l r : Nat) (hl : l < 18446744073709551616) (hr : r < 18446744073709551616) {x : Nat} (hx : concatM jn S l r = some (x, S')) :
    (Calls Tryz.prog 373 #[cutV ps j c, .int .u64 l, .int .u64 r] w fun e w' => e = .returned (.int .u64 x) ∧ StOn w' ps S' Y ∧ Keep Y w w') ∧ Inv S' ∧ x < 18446744073709551616 := by
  have q0 := heap_alloc_new w (.cells #[PV ps, fnV j, fnV c] 343)
  have B0 := (Below.refl w.heap.size w).alloc (Nat.le_refl _) (.cells #[PV ps, fnV j, fnV c] 343)
  unfold concatM at hx
  split at hx
  · rename_i h0
    subst h0
    have hx := Option.some.inj hx
    injection hx with e1 e2
    subst e1 e2
    refine ⟨?_, hi, hr⟩
    simp only [cutV, fnV] at B0 ⊢
    have HG := Lib.hid (And.intro (h.below B0) (h.keep B0))
    clear q0 B0 h hi hjn
    go_enter Tryz.func373, Tryz.ntmps373
    go_wp2_with fail
    go_ret
    exact ⟨rfl, HG.out⟩
  · rename_i h0
    split at hx
    · cases hx
    rename_i l1 m1 S1 h1
    obtain ⟨-, hi1, hl1, hm1⟩ := cut_last (c := c) hjn 200 0 rfl h hi hl h1
    have hla := fun W Z (hW : StOn W ps S Z) => (cut_last (c := c) hjn 200 0 rfl hW hi hl h1).1
    have hjs := cjoinM_some hjn hx
    have hjoin := fun W Z (hW : StOn W ps S1 Z) => cut_join (c := c) hW hi1 hjn l1 m1 r hl1 hm1 hr hx
    refine ⟨?_, hjn.inv hi1 hjs, by rcases hjn.mem hi1 hjs with e | e | e <;> simp only at e <;> first | (rw [e]; exact hm1) | (rw [e]; exact hl1) | (rw [e]; exact hr)⟩
    have hq : ((l : Int) == 0) = false := by simp; omega
    simp only [cutV, fnV] at q0 B0 hla hjoin ⊢
    have sw : (w.alloc (.cells #[PV ps, .func (.func j) #[] #[], .func (.func c) #[] #[]] 343)).heap.size = w.heap.size + 1 := by simp
    have S1 := h.wide B0
    rw [sw] at S1
    have HG := Lib.hid (And.intro hla (And.intro hjoin (And.intro S1 (And.intro q0 (Keep.of_below B0 h.yl)))))
    clear hla hjoin S1 q0 B0 h hi h1 hx hi1 hl1 hm1 hjs hjn h0 sw
    go_enter Tryz.func373, Tryz.ntmps373
    go_wp2_with fail
    refine (HG.out.1 _ _ HG.out.2.2.1).mono ?_
    rintro e w2 ⟨rfl, h2, k2⟩
    have r2 := (k2.block w.heap.size (Or.inr ⟨Nat.le_refl _, Nat.lt_succ_self _⟩)).trans HG.out.2.2.2.1
    have c0 : (w2).cell? ⟨w.heap.size, 0, none⟩ = some (PV ps) := by rw [cell_of_block r2]; rfl
    have c1 : (w2).cell? ⟨w.heap.size, 1, none⟩ = some (.func (.func j) #[] #[]) := by rw [cell_of_block r2]; rfl
    have c2 : (w2).cell? ⟨w.heap.size, 2, none⟩ = some (.func (.func c) #[] #[]) := by rw [cell_of_block r2]; rfl
    have H2 := Lib.hid (And.intro h2 k2)
    clear h2 k2 r2
    go_wp2_with fail
    refine (HG.out.2.1 _ _ H2.out.1).mono ?_
    rintro e w3 ⟨rfl, h3, k3⟩
    have H3 := Lib.hid (And.intro (h3.mono (Z := Y) fun k hk => Or.inl hk) (HG.out.2.2.2.2.trans ((H2.out.2.trans k3).mono fun k hk => Or.inl hk)))
    clear h3 k3 c0 c1 c2
    go_wp2_with fail
    go_ret
    exact ⟨rfl, H3.out⟩

end Go.Proofs.YtoaabbnieakidaaGreatDoorR
