/- Empty trees; maps: the walks. -/
import Derived.Test.YtoaabbnieakidaaGreatDoorRGbb
namespace Go.Proofs.YtoaabbnieakidaaGreatDoorR
open Go.RowKit Go.BigFrame Go.Maps Go.WideMaps Lf

set_option maxRecDepth 100000 in
set_option maxHeartbeats 800000 in
theorem tree_open {w : World} {ps : Nat} {S : St} {Y : Nat → Prop} (h : StOn w ps S Y) (hi : Inv S) {kind : Nat} {j c : FuncId} {jn : Jn} (hk : KindOk kind j c jn) (t : Int) :
    Calls Tryz.prog 115 #[PV ps, .int .i64 kind, .int .i64 t, .int .u64 0] w fun e w' => ∃ px, e = .returned (.tuple #[PV px, .int .i64 0]) ∧ TreeOn w' px ps kind 0 ∧ Below w.heap.size w w' ∧ w.heap.size ≤ px := by
  have hc := bulk_check0 h hi hk t
  have hq : ((kind : Int) == 3) = false := by have := hk.is; simp; omega
  have HG := Lib.hid hc
  clear hc h hi hk
  go_enter Tryz.func115, Tryz.ntmps115
  go_wp2_with fail
  refine HG.out.mono ?_
  rintro e w1 ⟨rfl, hb1⟩
  have q := heap_alloc_new w1 (.cells #[PV ps, .int .i64 kind, .int .i64 0, .iface 247 (binV ps kind), .int .u64 0] 131)
  have B := hb1.alloc hb1.size (.cells #[PV ps, .int .i64 kind, .int .i64 0, .iface 247 (binV ps kind), .int .u64 0] 131)
  simp only [binV] at q B
  have HB := Lib.hid (And.intro q (And.intro B hb1.size))
  clear q B hb1
  go_wp2_with fail
  go_ret2
  exact ⟨w1.heap.size, rfl, HB.out.1, HB.out.2.1, HB.out.2.2⟩

set_option maxRecDepth 100000 in
set_option maxHeartbeats 800000 in
theorem tree_new {w : World} {ps : Nat} {S : St} {Y : Nat → Prop} (h : StOn w ps S Y) (hi : Inv S) {kind : Nat} {j c : FuncId} {jn : Jn} (hk : KindOk kind j c jn) (t : Int) :
    Calls Tryz.prog 80 #[PV ps, .int .i64 kind, .int .i64 t] w fun e w' => ∃ px, e = .returned (.tuple #[PV px, .int .i64 0]) ∧ TreeOn w' px ps kind 0 ∧ Below w.heap.size w w' ∧ w.heap.size ≤ px := by
  have HG := Lib.hid (tree_open h hi hk t)
  clear h hi hk
  go_enter Tryz.func80, Tryz.ntmps80
  go_wp2_with fail
  refine HG.out.mono ?_
  rintro e w1 ⟨px, rfl, hr⟩
  have HB := Lib.hid hr
  clear hr
  go_wp2_with fail
  go_ret2
  exact ⟨px, rfl, HB.out⟩

/-- a map in memory -/
def MapOn (w : World) (pm px ps limit : Nat) : Prop := w.heap[pm]? = some (.cells #[PV ps, PV px, .int .i64 limit] 89)
theorem MapOn.below {w w' : World} {pm px ps limit : Nat} (h : MapOn w pm px ps limit) (hb : Below w.heap.size w w') : MapOn w' pm px ps limit := (hb.block pm (Array.getElem?_eq_some_iff.1 h).1).trans h

set_option maxRecDepth 100000 in
set_option maxHeartbeats 400000 in
theorem map_none {w : World} {pm px ps limit : Nat} (hM : MapOn w pm px ps limit) :
    Calls Tryz.prog 55 #[PV pm] w fun e w' => e = .returned (.bool false) ∧ w = w' := by
  unfold MapOn at hM
  have c0 : (w).cell? ⟨pm, 0, none⟩ = some (PV ps) := by rw [cell_of_block hM]; rfl
  have c1 : (w).cell? ⟨pm, 1, none⟩ = some (PV px) := by rw [cell_of_block hM]; rfl
  have c2 : (w).cell? ⟨pm, 2, none⟩ = some (.int .i64 limit) := by rw [cell_of_block hM]; rfl
  clear hM
  go_enter Tryz.func55, Tryz.ntmps55
  go_wp2_with fail
  go_ret
  exact ⟨rfl, rfl⟩
set_option maxRecDepth 100000 in
set_option maxHeartbeats 400000 in
theorem map_none_nil (w : World) :
    Calls Tryz.prog 55 #[.pointer none] w fun e w' => e = .returned (.bool true) ∧ w = w' := by
  go_enter Tryz.func55, Tryz.ntmps55
  go_wp2_with fail
  go_ret
  exact ⟨rfl, rfl⟩
set_option maxRecDepth 100000 in
set_option maxHeartbeats 400000 in
theorem map_tree {w : World} {pm px ps limit : Nat} (hM : MapOn w pm px ps limit) :
    Calls Tryz.prog 90 #[PV pm] w fun e w' => e = .returned (PV px) ∧ w = w' := by
  have HG := Lib.hid (map_none hM)
  unfold MapOn at hM
  have c0 : (w).cell? ⟨pm, 0, none⟩ = some (PV ps) := by rw [cell_of_block hM]; rfl
  have c1 : (w).cell? ⟨pm, 1, none⟩ = some (PV px) := by rw [cell_of_block hM]; rfl
  have c2 : (w).cell? ⟨pm, 2, none⟩ = some (.int .i64 limit) := by rw [cell_of_block hM]; rfl
  clear hM
  go_enter Tryz.func90, Tryz.ntmps90
  go_wp2_with fail
  refine HG.out.mono ?_
  rintro e w1 ⟨rfl, rfl⟩
  go_wp2_with fail
  go_ret
  exact ⟨rfl, rfl⟩
set_option maxRecDepth 100000 in
set_option maxHeartbeats 400000 in
theorem map_tree_nil (w : World) :
    Calls Tryz.prog 90 #[.pointer none] w fun e w' => e = .returned (.pointer none) ∧ w = w' := by
  have HG := Lib.hid (map_none_nil w)
  go_enter Tryz.func90, Tryz.ntmps90
  go_wp2_with fail
  refine HG.out.mono ?_
  rintro e w1 ⟨rfl, rfl⟩
  go_wp2_with fail
  go_ret
  exact ⟨rfl, rfl⟩

set_option maxRecDepth 100000 in
set_option maxHeartbeats 800000 in
theorem map_len {w : World} {pm px ps limit kind root : Nat} {S : St} {Y : Nat → Prop} (h : StOn w ps S Y) (hi : Inv S) (hM : MapOn w pm px ps limit) (hT : TreeOn w px ps kind root) (hl : root < 18446744073709551616) {z : Nat} (hz : sizeM S root = some z) :
    Calls Tryz.prog 98 #[PV pm] w fun e w' => e = .returned (.int .i64 z) ∧ Below w.heap.size w w' := by
  have HG := Lib.hid (And.intro (map_none hM) (tree_len h hi hT hl hz))
  unfold MapOn at hM
  have c0 : (w).cell? ⟨pm, 0, none⟩ = some (PV ps) := by rw [cell_of_block hM]; rfl
  have c1 : (w).cell? ⟨pm, 1, none⟩ = some (PV px) := by rw [cell_of_block hM]; rfl
  have c2 : (w).cell? ⟨pm, 2, none⟩ = some (.int .i64 limit) := by rw [cell_of_block hM]; rfl
  clear hM h hi hT hz
  go_enter Tryz.func98, Tryz.ntmps98
  go_wp2_with fail
  refine HG.out.1.mono ?_
  rintro e w1 ⟨rfl, rfl⟩
  go_wp2_with fail
  refine HG.out.2.mono ?_
  rintro e w2 ⟨rfl, hb⟩
  have HB := Lib.hid hb
  clear hb
  go_wp2_with fail
  go_ret
  exact ⟨rfl, HB.out⟩
set_option maxRecDepth 100000 in
set_option maxHeartbeats 800000 in
theorem map_rank {w : World} {pm px ps limit kind root : Nat} {S : St} {Y : Nat → Prop} (h : StOn w ps S Y) (hi : Inv S) (hM : MapOn w pm px ps limit) (hT : TreeOn w px ps kind root) (hl : root < 18446744073709551616) (k : List UInt8) {z : Nat} (hz : rankM S root k = some z) :
    Calls Tryz.prog 32 #[PV pm, SV k] w fun e w' => e = .returned (.int .i64 z) ∧ Below w.heap.size w w' := by
  have HG := Lib.hid (And.intro (map_none hM) (tree_rank h hi hT hl k hz))
  unfold MapOn at hM
  have c0 : (w).cell? ⟨pm, 0, none⟩ = some (PV ps) := by rw [cell_of_block hM]; rfl
  have c1 : (w).cell? ⟨pm, 1, none⟩ = some (PV px) := by rw [cell_of_block hM]; rfl
  have c2 : (w).cell? ⟨pm, 2, none⟩ = some (.int .i64 limit) := by rw [cell_of_block hM]; rfl
  clear hM h hi hT hz
  go_enter Tryz.func32, Tryz.ntmps32
  go_wp2_with fail
  refine HG.out.1.mono ?_
  rintro e w1 ⟨rfl, rfl⟩
  go_wp2_with fail
  refine HG.out.2.mono ?_
  rintro e w2 ⟨rfl, hb⟩
  have HB := Lib.hid hb
  clear hb
  go_wp2_with fail
  go_ret
  exact ⟨rfl, HB.out⟩
set_option maxRecDepth 100000 in
set_option maxHeartbeats 800000 in
theorem map_select {w : World} {pm px ps limit kind root : Nat} {S : St} {Y : Nat → Prop} (h : StOn w ps S Y) (hi : Inv S) (hM : MapOn w pm px ps limit) (hT : TreeOn w px ps kind root) (hl : root < 18446744073709551616) (k : Nat) (hk : k < 4611686018427387904) {p : List UInt8 × List UInt8} (hp : treeAtM S root k = some p) :
    Calls Tryz.prog 34 #[PV pm, .int .i64 k] w fun e w' => e = .returned (.tuple #[prV p, .int .i64 0]) ∧ Below w.heap.size w w' := by
  have B0 := (Below.refl w.heap.size w).alloc (Nat.le_refl _) (.cells #[.string ⟨#[]⟩, .string ⟨#[]⟩] 50)
  have q0 := heap_alloc_new w (.cells #[.string ⟨#[]⟩, .string ⟨#[]⟩] 50)
  have hM0 := hM.below B0
  have hat := tree_at (h.below B0) hi (hT.below B0) hl k hk hp
  simp only [prV] at hat ⊢
  obtain ⟨p1, p2⟩ := p
  simp only at hat ⊢
  have HG := Lib.hid (And.intro (map_none hM0) (And.intro hat (And.intro B0 q0)))
  unfold MapOn at hM0
  have c0 : ((w.alloc (.cells #[.string ⟨#[]⟩, .string ⟨#[]⟩] 50))).cell? ⟨pm, 0, none⟩ = some (PV ps) := by rw [cell_of_block hM0]; rfl
  have c1 : ((w.alloc (.cells #[.string ⟨#[]⟩, .string ⟨#[]⟩] 50))).cell? ⟨pm, 1, none⟩ = some (PV px) := by rw [cell_of_block hM0]; rfl
  have c2 : ((w.alloc (.cells #[.string ⟨#[]⟩, .string ⟨#[]⟩] 50))).cell? ⟨pm, 2, none⟩ = some (.int .i64 limit) := by rw [cell_of_block hM0]; rfl
  clear hM hM0 h hi hT hp hat B0 q0
  go_enter Tryz.func34, Tryz.ntmps34
  go_wp2_with fail
  refine HG.out.1.mono ?_
  rintro e w1 ⟨rfl, rfl⟩
  go_wp2_with fail
  refine HG.out.2.1.mono ?_
  rintro e w2 ⟨rfl, hb⟩
  have q2 := (hb.block w.heap.size (by simp)).trans HG.out.2.2.2
  have d0 : (w2).cell? ⟨w.heap.size, 0, none⟩ = some (.string ⟨#[]⟩) := by rw [cell_of_block q2]; rfl
  have d1 : (w2).cell? ⟨w.heap.size, 1, none⟩ = some (.string ⟨#[]⟩) := by rw [cell_of_block q2]; rfl
  have f0 : (w2).frozen? ⟨w.heap.size, 0, none⟩ = false := frozen_of_block q2
  have f1 : (w2).frozen? ⟨w.heap.size, 1, none⟩ = false := frozen_of_block q2
  have q3 := st2_heap q2 (SV p1) (SV p2)
  have B3 := st2_below (HG.out.2.2.1.trans (hb.mono HG.out.2.2.1.size)) (Nat.le_refl _) (SV p1) (SV p2)
  have HB := Lib.hid (And.intro q3 B3)
  clear hb q2 q3 B3
  go_wp2_with fail
  obtain ⟨q3, B3⟩ := HB.out
  generalize ((w2.setCell ⟨w.heap.size, 0, none⟩ (SV p1)).setCell ⟨w.heap.size, 1, none⟩ (SV p2)) = w3 at *
  have e0 : (w3).cell? ⟨w.heap.size, 0, none⟩ = some (SV p1) := by rw [cell_of_block q3]; rfl
  have e1 : (w3).cell? ⟨w.heap.size, 1, none⟩ = some (SV p2) := by rw [cell_of_block q3]; rfl
  exact bodyPost_ret (v := .tuple #[.agg #[SV p1, SV p2], .int .i64 0]) (by simp [results, Tryz.f34, go_sem, e0, e1]) rfl ⟨rfl, B3⟩

set_option maxRecDepth 100000 in
set_option maxHeartbeats 800000 in
theorem map_asked {w : World} {pm px ps limit : Nat} (hM : MapOn w pm px ps limit) (a b : List UInt8) (ha : a.length ≤ limit) (hb : b.length ≤ limit) :
    Calls Tryz.prog 51 #[PV pm, SV a, SV b] w fun e w' => e = .returned (.int .i64 0) ∧ w = w' := by
  have HG := Lib.hid (map_none hM)
  unfold MapOn at hM
  have c0 : (w).cell? ⟨pm, 0, none⟩ = some (PV ps) := by rw [cell_of_block hM]; rfl
  have c1 : (w).cell? ⟨pm, 1, none⟩ = some (PV px) := by rw [cell_of_block hM]; rfl
  have c2 : (w).cell? ⟨pm, 2, none⟩ = some (.int .i64 limit) := by rw [cell_of_block hM]; rfl
  have ha1 : ((limit : Int) < (a.length : Int)) = False := eq_false (by omega)
  have hb1 : ((limit : Int) < (b.length : Int)) = False := eq_false (by omega)
  clear hM ha hb
  go_enter Tryz.func51, Tryz.ntmps51
  go_wp2_with fail
  refine HG.out.mono ?_
  rintro e w1 ⟨rfl, rfl⟩
  go_wp2_with fail
  go_ret
  exact ⟨rfl, rfl⟩

set_option maxRecDepth 100000 in
set_option maxHeartbeats 800000 in
theorem map_put {w : World} {pm px ps limit kind root : Nat} {S S' : St} {Y : Nat → Prop} (h : StOn w ps S Y) (hi : Inv S) (hM : MapOn w pm px ps limit) (hT : TreeOn w px ps kind root) (hpx : Y px) (hl : root < 18446744073709551616) {j c : FuncId} {jn : Jn} (hk : KindOk kind j c jn) (a b : List UInt8) (ha : a.length ≤ limit) (hb : b.length ≤ limit) (hm : PutOk S a b) {x : Nat} (hx : treePutM jn S root a b = some (x, S')) :
    Calls Tryz.prog 50 #[PV pm, SV a, SV b] w fun e w' => e = .returned (.tuple #[.string ⟨#[]⟩, .bool false, .int .i64 0]) ∧ StOn w' ps S' Y ∧ Keep (fun k => Y k ∧ k ≠ px) w w' ∧ TreeOn w' px ps kind x ∧ Inv S' ∧ x < 18446744073709551616 := by
  have HG := Lib.hid (And.intro (map_asked hM a b ha hb) (tree_put h hi hT hpx hl hk a b hm hx))
  simp only [prV] at HG
  unfold MapOn at hM
  have c0 : (w).cell? ⟨pm, 0, none⟩ = some (PV ps) := by rw [cell_of_block hM]; rfl
  have c1 : (w).cell? ⟨pm, 1, none⟩ = some (PV px) := by rw [cell_of_block hM]; rfl
  have c2 : (w).cell? ⟨pm, 2, none⟩ = some (.int .i64 limit) := by rw [cell_of_block hM]; rfl
  clear hM ha hb h hi hT hpx hl hk hm hx
  go_enter Tryz.func50, Tryz.ntmps50
  go_wp2_with fail
  refine HG.out.1.mono ?_
  rintro e w1 ⟨rfl, rfl⟩
  go_wp2_with fail
  refine HG.out.2.mono ?_
  rintro e w2 ⟨rfl, hr⟩
  have HR := Lib.hid hr
  clear hr
  go_wp2_with fail
  go_ret3
  exact ⟨rfl, HR.out⟩

set_option maxRecDepth 100000 in
set_option maxHeartbeats 800000 in
theorem map_of {w : World} {ps px kind : Nat} {S : St} {Y : Nat → Prop} (h : StOn w ps S Y) (hi : Inv S) (hT : TreeOn w px ps kind 0) {j c : FuncId} {jn : Jn} (hk : KindOk kind j c jn) (limit : Nat) (hl : limit ≤ 1000) :
    Calls Tryz.prog 81 #[PV ps, PV px, .int .i64 limit] w fun e w' => ∃ pm, e = .returned (.tuple #[PV pm, .int .i64 0]) ∧ MapOn w' pm px ps limit ∧ Below w.heap.size w w' ∧ w.heap.size ≤ pm := by
  have hlen := st_len h hi 0 (by omega)
  rw [len_zero] at hlen
  have hc := tree_check0 h hi hT hk
  have hls := fun W (hW : Below w.heap.size w W) => tree_list0 (h.below hW) hi (hT.below hW) hk
  have h1 : ((limit : Int) < 0) = False := eq_false (by omega)
  have h2 : (1000 < (limit : Int)) = False := eq_false (by omega)
  have HG := Lib.hid (And.intro hlen (And.intro hc hls))
  clear hlen hc hls h hi hT hk hl
  go_enter Tryz.func81, Tryz.ntmps81
  go_wp2_with fail
  refine HG.out.1.mono ?_
  rintro e w1 ⟨rfl, rfl⟩
  go_wp2_with fail
  refine HG.out.2.1.mono ?_
  rintro e w1 ⟨rfl, hb1⟩
  have H1 := Lib.hid hb1
  clear hb1
  go_wp2_with fail
  refine (HG.out.2.2 _ H1.out).mono ?_
  rintro e w2 ⟨rfl, hb2⟩
  have H2 := Lib.hid (H1.out.trans (hb2.mono H1.out.size))
  clear hb2
  go_wp2_with fail
  go_loopw [11, 33] (fun _ k wr => k = .int .i64 0 ∧ wr = w2) (fun _ _ _ => 0)
  case atStart => exact ⟨rfl, rfl⟩
  case round =>
    obtain ⟨rfl, rfl⟩ := hrel
    have q := heap_alloc_new wr (.cells #[PV ps, PV px, .int .i64 limit] 89)
    have HB := Lib.hid (And.intro q (H2.out.alloc H2.out.size (.cells #[PV ps, PV px, .int .i64 limit] 89)))
    clear q
    go_wp2_with fail
    go_ret2
    exact ⟨wr.heap.size, rfl, HB.out.1, HB.out.2, H2.out.size⟩

set_option maxRecDepth 100000 in
set_option maxHeartbeats 800000 in
theorem map_new {w : World} {ps kind : Nat} {S : St} {Y : Nat → Prop} (h : StOn w ps S Y) (hi : Inv S) {j c : FuncId} {jn : Jn} (hk : KindOk kind j c jn) (t : Int) (limit : Nat) (hl : limit ≤ 1000) :
    Calls Tryz.prog 49 #[PV ps, .int .i64 kind, .int .i64 t, .int .i64 limit] w fun e w' => ∃ pm px, e = .returned (.tuple #[PV pm, .int .i64 0]) ∧ MapOn w' pm px ps limit ∧ TreeOn w' px ps kind 0 ∧ Below w.heap.size w w' ∧ w.heap.size ≤ pm ∧ w.heap.size ≤ px ∧ pm ≠ px := by
  have hn := tree_new h hi hk t
  have ho := fun W px (hW : Below w.heap.size w W) (hT : TreeOn W px ps kind 0) => map_of (h.below hW) hi hT hk limit hl
  have HG := Lib.hid (And.intro hn ho)
  clear hn ho h hi hk hl
  go_enter Tryz.func49, Tryz.ntmps49
  go_wp2_with fail
  refine HG.out.1.mono ?_
  rintro e w1 ⟨px, rfl, hT, hb1, lx⟩
  have H1 := Lib.hid (And.intro hT (And.intro hb1 lx))
  clear hT hb1 lx
  go_wp2_with fail
  refine (HG.out.2 _ px H1.out.2.1 H1.out.1).mono ?_
  rintro e w2 ⟨pm, rfl, hM, hb2, lm⟩
  have H2 := Lib.hid (And.intro hM (And.intro hb2 lm))
  clear hM hb2 lm
  go_wp2_with fail
  go_ret2
  have hlt := (Array.getElem?_eq_some_iff.1 H1.out.1).1
  exact ⟨pm, px, rfl, H2.out.1, H1.out.1.below H2.out.2.1, H1.out.2.1.trans (H2.out.2.1.mono H1.out.2.1.size), Nat.le_trans H1.out.2.1.size H2.out.2.2, H1.out.2.2, by have := H2.out.2.2; omega⟩
end Go.Proofs.YtoaabbnieakidaaGreatDoorR
