import Derived.Test.YtcibkdbpicledaaGreatDoorWaw
import Derived.Shelf.Spec.SlicesInsertGrow
set_option maxRecDepth 100000
set_option maxHeartbeats 6400000
namespace Go.Proofs.YtcibkdbpicledaaGreatDoor
open Go.RowKit Go.BigFrame Go.Maps Go.WideMaps Lf Tr
theorem bnode_get0 {w : World} {ps : Nat} {S : St} {Y : Nat → Prop} (h : StOn w ps S Y) (hi : Inv S) {t : Nat} (t1 : 2 ≤ t) (t2 : t ≤ 16) (hh : Nat) (hl : hh < 18446744073709551616) (hlen : S.len hh = (0, 7)) :
 Calls Tryz.prog 195 #[PV ps, .int .i64 t, .int .u64 hh] w fun e w' => e = .returned (.tuple #[bnV (.slice none 0 0) (.slice none 0 0) (.slice none 0 0) 0, .int .i64 7]) ∧ Below w.heap.size w w' := by
 have hle0 := fun W (hW : Below w.heap.size w W) => st_len (h.below hW) hi 0 (by omega)
 have hle1 := fun W (hW : Below w.heap.size w W) => st_len (h.below hW) hi hh hl
 rw [len_zero] at hle0
 rw [hlen] at hle1
 have his := fun W => isDeg_true t1 t2 ▸ bnode_is (t : Int) W
 have six := four_box w ps hh
 have HG := kq3 hle0 hle1 his
 clear hle0 hle1 his h hi hlen
 unfold bnV
 generalize hw4 : ((((w.alloc (.cells #[PV ps] 25)).alloc (.cells #[.int .u64 hh] 83)).alloc (.cells #[.slice none 0 0, .slice none 0 0, .slice none 0 0, .int .u64 0] 286)).alloc (.cells #[.int .i64 0] 30)) = w4 at *
 have e3 := six.b3
 have e5 := six.b5
 have e6 := six.b6
 have e7 := six.b7
 have x0 : (w4).cell? ⟨w.heap.size, 0, none⟩ = some (PV ps) := by rw [cell_of_block e3]; rfl
 have y0 : (w4).cell? ⟨w.heap.size + 1, 0, none⟩ = some (.int .u64 hh) := by rw [cell_of_block e5]; rfl
 obtain ⟨z0, z1, z2, z3⟩ := cells4 e6
 obtain ⟨f0, f1, f2, f3⟩ := frees4 e6
 have c0 : (w4).cell? ⟨w.heap.size + 1 + 1 + 1, 0, none⟩ = some (.int .i64 0) := by rw [cell_of_block e7]; rfl
 have g0 : (w4).frozen? ⟨w.heap.size + 1 + 1 + 1, 0, none⟩ = false := frozen_of_block e7
 have S4 := Lib.hid six
 clear e3 e5 e6 e7 six
 go_enter Tryz.func195, Tryz.ntmps195
 go_wp2_with fail
 refine (HG.out.1 _ S4.out.below).mono ?_
 rintro e w5 ⟨rfl, rfl⟩
 go_wp2_with fail
 refine (HG.out.2.2 _).mono ?_
 rintro e w5 ⟨rfl, rfl⟩
 go_wp2_with fail
 refine (HG.out.2.1 _ S4.out.below).mono ?_
 rintro e w5 ⟨rfl, rfl⟩
 go_wp2_with fail
 have p6 := st4_heap (u0 := .slice none 0 0) (u1 := .slice none 0 0) (u2 := .slice none 0 0) (u3 := .int .u64 0) S4.out.b6
 have B6 := st4_below (u0 := .slice none 0 0) (u1 := .slice none 0 0) (u2 := .slice none 0 0) (u3 := .int .u64 0) (b := w.heap.size + 1 + 1) S4.out.below (by omega)
 have p7 := (st4_other (w := w4) (b := w.heap.size + 1 + 1) (k := w.heap.size + 1 + 1 + 1) (u0 := .slice none 0 0) (u1 := .slice none 0 0) (u2 := .slice none 0 0) (u3 := .int .u64 0) (by omega)).trans S4.out.b7
 generalize ((((w4.setCell ⟨w.heap.size + 1 + 1, 0, none⟩ (.slice none 0 0)).setCell ⟨w.heap.size + 1 + 1, 1, none⟩ (.slice none 0 0)).setCell ⟨w.heap.size + 1 + 1, 2, none⟩ (.slice none 0 0)).setCell ⟨w.heap.size + 1 + 1, 3, none⟩ (.int .u64 0)) = W5 at *
 have r7 := heap_setCell (i := 0) (v := .int .i64 7) p7
 have r6 := (heap_setCell_ne (w := W5) (b := w.heap.size + 1 + 1 + 1) (i := 0) (v := .int .i64 7) (k := w.heap.size + 1 + 1) (by omega)).trans p6
 have B7 := B6.setCell (p := ⟨w.heap.size + 1 + 1 + 1, 0, none⟩) (by show w.heap.size ≤ w.heap.size + 1 + 1 + 1; omega) (.int .i64 7)
 generalize W5.setCell ⟨w.heap.size + 1 + 1 + 1, 0, none⟩ (.int .i64 7) = W6 at *
 obtain ⟨e0, e1, e2, e3⟩ := cells4 r6
 have d0 : W6.cell? ⟨w.heap.size + 1 + 1 + 1, 0, none⟩ = some (.int .i64 7) := by rw [cell_of_block r7]; rfl
 exact bodyPost_ret (v := .tuple #[.agg #[.slice none 0 0, .slice none 0 0, .slice none 0 0, .int .u64 0], .int .i64 7]) (by simp [results, Tryz.f195, go_sem, e0, e1, e2, e3, d0]) rfl ⟨rfl, B7⟩
theorem bt_get0 {w : World} {ps : Nat} {S : St} {Y : Nat → Prop} (h : StOn w ps S Y) (hi : Inv S) {t : Nat} (t1 : 2 ≤ t) (t2 : t ≤ 16) (hh : Nat) (hl : hh < 18446744073709551616) (hlen : S.len hh = (0, 7)) :
 Calls Tryz.prog 182 #[trB ps t, .int .u64 hh] w fun e w' => e = .returned (.tuple #[bnV (.slice none 0 0) (.slice none 0 0) (.slice none 0 0) 0, .bool false]) ∧ Below w.heap.size w w' := by
 have B0 := ((Below.refl w.heap.size w).alloc (Nat.le_refl _) (.cells #[PV ps, .int .i64 t] 254)).alloc (by simp) (.cells #[.slice none 0 0, .slice none 0 0, .slice none 0 0, .int .u64 0] 286)
 have z1 : (w.alloc (.cells #[PV ps, .int .i64 t] 254)).heap.size = w.heap.size + 1 := by simp
 have q1 := heap_alloc_new w (.cells #[PV ps, .int .i64 t] 254)
 have q2 := heap_alloc_new (w.alloc (.cells #[PV ps, .int .i64 t] 254)) (.cells #[.slice none 0 0, .slice none 0 0, .slice none 0 0, .int .u64 0] 286)
 have q3 := (((Below.refl (w.alloc (.cells #[PV ps, .int .i64 t] 254)).heap.size (w.alloc (.cells #[PV ps, .int .i64 t] 254))).alloc (Nat.le_refl _) (.cells #[.slice none 0 0, .slice none 0 0, .slice none 0 0, .int .u64 0] 286)).block w.heap.size (by simp)).trans q1
 rw [z1] at q2
 generalize hW : (w.alloc (.cells #[PV ps, .int .i64 t] 254)).alloc (.cells #[.slice none 0 0, .slice none 0 0, .slice none 0 0, .int .u64 0] 286) = W0 at *
 have hg := bnode_get0 (h.below B0) hi t1 t2 hh hl hlen
 obtain ⟨x0, x1⟩ := cells2 q3
 have hz : w.heap.size + 2 ≤ W0.heap.size := by rw [← hW]; simp
 unfold trB
 unfold bnV at hg ⊢
 have HG := kq5 hg B0 q2 hW hz
 clear hg B0 h hi q1 q2 q3 z1 hz hlen
 go_enter Tryz.func182, Tryz.ntmps182
 go_wp2_with fail
 refine HG.out.1.mono ?_
 rintro e w1 ⟨rfl, hb⟩
 have A1 := (Below.refl w1.heap.size w1).alloc (Nat.le_refl _) (.cells #[.slice none 0 0, .slice none 0 0, .slice none 0 0, .int .u64 0] 286)
 have p1 := heap_alloc_new w1 (.cells #[.slice none 0 0, .slice none 0 0, .slice none 0 0, .int .u64 0] 286)
 have r2 := (A1.block (w.heap.size + 1) (by have := hb.size; have := HG.out.2.2.2.2; omega)).trans ((hb.block (w.heap.size + 1) (by have := HG.out.2.2.2.2; omega)).trans HG.out.2.2.1)
 have BA := HG.out.2.1.trans ((hb.trans (A1.mono hb.size)).mono HG.out.2.1.size)
 have HB := kq3 BA r2 p1
 clear hb A1 p1 r2 BA
 have r2 := HB.out.2.1
 have p1 := HB.out.2.2
 obtain ⟨x0, x1, x2, x3⟩ := cells4 p1
 obtain ⟨y0, y1, y2, y3⟩ := cells4 r2
 obtain ⟨f0, f1, f2, f3⟩ := frees4 r2
 clear r2 p1 hW
 go_wp2_with fail
 generalize w1.alloc (.cells #[.slice none 0 0, .slice none 0 0, .slice none 0 0, .int .u64 0] 286) = W1 at *
 have e5 := st4_heap (u0 := .slice none 0 0) (u1 := .slice none 0 0) (u2 := .slice none 0 0) (u3 := .int .u64 0) HB.out.2.1
 have B5 := st4_below (u0 := .slice none 0 0) (u1 := .slice none 0 0) (u2 := .slice none 0 0) (u3 := .int .u64 0) (b := w.heap.size + 1) HB.out.1 (by omega)
 generalize ((((W1.setCell ⟨w.heap.size + 1, 0, none⟩ (.slice none 0 0)).setCell ⟨w.heap.size + 1, 1, none⟩ (.slice none 0 0)).setCell ⟨w.heap.size + 1, 2, none⟩ (.slice none 0 0)).setCell ⟨w.heap.size + 1, 3, none⟩ (.int .u64 0)) = W9 at *
 obtain ⟨e0, e1, e2, e3⟩ := cells4 e5
 exact bodyPost_ret (v := .tuple #[.agg #[.slice none 0 0, .slice none 0 0, .slice none 0 0, .int .u64 0], .bool false]) (by simp [results, Tryz.f182, go_sem, e0, e1, e2, e3]) rfl ⟨rfl, B5⟩
theorem bt_size0 {w : World} {ps : Nat} {S : St} {Y : Nat → Prop} (h : StOn w ps S Y) (hi : Inv S) {t : Nat} (t1 : 2 ≤ t) (t2 : t ≤ 16) (hh : Nat) (hl : hh < 18446744073709551616) (hlen : S.len hh = (0, 7)) :
 Calls Tryz.prog 163 #[trB ps t, .int .u64 hh] w fun e w' => e = .returned (.int .i64 0) ∧ Below w.heap.size w w' := by
 have B0 := (Below.refl w.heap.size w).alloc (Nat.le_refl _) (.cells #[PV ps, .int .i64 t] 254)
 have hg := bt_get0 (h.below B0) hi t1 t2 hh hl hlen
 unfold trB bnV at hg
 unfold trB
 have HG := kq2 hg B0
 clear hg B0 h hi hlen
 go_enter Tryz.func163, Tryz.ntmps163
 go_wp2_with fail
 refine HG.out.1.mono ?_
 rintro e w1 ⟨rfl, hb⟩
 have HB := Lib.hid ((HG.out.2.trans (hb.mono HG.out.2.size)).alloc (Nat.le_trans HG.out.2.size hb.size) (.cells #[.slice none 0 0, .slice none 0 0, .slice none 0 0, .int .u64 0] 286))
 clear hb
 go_wp2_with fail
 go_ret
 exact ⟨rfl, HB.out⟩
theorem bt_asked {w : World} {ps : Nat} {S : St} {Y : Nat → Prop} (h : StOn w ps S Y) (hi : Inv S) {t : Nat} (t1 : 2 ≤ t) (t2 : t ≤ 16) :
 Calls Tryz.prog 156 #[PV ps, .int .i64 t] w fun e w' => e = .returned (.int .i64 0) ∧ w = w' := by
 have hle := st_len h hi 0 (by omega)
 rw [len_zero] at hle
 have hwo := fun W => bnode_words t t1 t2 W
 have hq : ((6 * (t : Int)) == 0) = false := by simp; omega
 have hq2 : ¬ (t : Int) = 0 := by omega
 have HG := kq2 hle hwo
 clear hle hwo h hi
 go_enter Tryz.func156, Tryz.ntmps156
 go_wp2_with fail
 refine HG.out.1.mono ?_
 rintro e w1 ⟨rfl, rfl⟩
 go_wp2_with fail
 refine (HG.out.2 _).mono ?_
 rintro e w1 ⟨rfl, rfl⟩
 go_wp2_with fail
 go_ret
 exact ⟨rfl, rfl⟩
theorem btree_size {w : World} {ps t hh z : Nat} (hs : Calls Tryz.prog 163 #[trB ps t, .int .u64 hh] w fun e w' => e = .returned (.int .i64 z) ∧ Below w.heap.size w w') :
 Calls Tryz.prog 319 #[PV ps, .int .i64 t, .int .u64 hh] w fun e w' => e = .returned (.int .i64 z) ∧ Below w.heap.size w w' := by
 unfold trB at hs
 have HG := Lib.hid hs
 clear hs
 go_enter Tryz.func319, Tryz.ntmps319
 go_wp2_with fail
 refine HG.out.mono ?_
 rintro e w1 ⟨rfl, hb⟩
 have HB := Lib.hid hb
 clear hb
 go_wp2_with fail
 go_ret
 exact ⟨rfl, HB.out⟩
structure Bt.Walk (S : St) (o : Nat → Nat) (t : Nat) {d : Nat} (x : Bt d) : Prop where
 fit : Fit S o
 t1 : 2 ≤ t
 t2 : t ≤ 16
 at' : Bt.At S t x
 ok : Bt.Ok t x
 sorted : (Bt.its x).Pairwise klt
 keys : KeysAt S (Bt.its x)
 few : (Bt.its x).length < 1000000
theorem Bt.Walk.kid {S : St} {o : Nat → Nat} {t d : Nat} {x : Bt (d + 1)} (h : Walk S o t x) {k : Bt d} (hk : k ∈ Bn.ks x) : Walk S o t k := by
 have hk2 : ∀ e ∈ its k, e ∈ its x := fun e he => kid_its h.ok.okN hk he
 have hsub : (its k).Sublist (its x) := by
  rw [its_mk]
  have hr := h.ok.okN.rows
  obtain ⟨i, hi, rfl⟩ := List.mem_iff_getElem.1 hk
  rcases hr with ⟨h0, _⟩ | ⟨h0, _⟩
  · have : ((Bn.ks x).map its).length = 0 := by rw [h0]; rfl
    rw [List.length_map] at this
    omega
  · have hi2 : i ≤ (Bn.es x).length := by rw [List.length_map] at h0; omega
    rw [weave_kid hi2 h0, getD_its hi]
    exact (List.sublist_append_left _ _).trans (List.sublist_append_right _ _)
 exact ⟨h.fit, h.t1, h.t2, h.at'.2 k hk, (h.ok.2.2 k hk).1, h.sorted.sublist hsub, ⟨fun e he => h.keys.lt e (hk2 e he), fun e he => h.keys.get e (hk2 e he)⟩, Nat.lt_of_le_of_lt hsub.length_le h.few⟩
theorem Bt.Walk.es {S : St} {o : Nat → Nat} {t d : Nat} {x : Bt (d + 1)} (h : Walk S o t x) : (Bn.es x).Pairwise klt ∧ KeysAt S (Bn.es x) ∧ (Bn.es x).length ≤ 31 := by
 have hs : (Bn.es x).Sublist (its x) := by
  rw [its_mk]
  refine sub_weave _ _ ?_
  rcases h.ok.okN.rows with ⟨h0, _⟩ | ⟨h0, _⟩
  · exact Or.inl h0
  · exact Or.inr h0
 exact ⟨h.sorted.sublist hs, ⟨fun e he => h.keys.lt e (hs.subset he), fun e he => h.keys.get e (hs.subset he)⟩, by have := h.ok.1; have := h.t2; omega⟩
theorem Bt.Walk.read {S : St} {o : Nat → Nat} {t d : Nat} {x : Bt (d + 1)} (h : Walk S o t x) : BnAt S t (hd x) (bn x) := h.at'.read h.fit h.t1 h.t2 h.ok
theorem Bt.Walk.size {S : St} {o : Nat → Nat} {t d : Nat} {x : Bt (d + 1)} (h : Walk S o t x) : (bn x).size = (its x).length ∧ (bn x).size < 4611686018427387904 := ⟨rfl, by have := h.few; show (its x).length < _; omega⟩
theorem HRow.at {α : Type} {W : World} {A : Option Addr} {n c k : Nat} {l : List α} {f : α → Nat} {e : α} (h : HRow W (.slice A n c) (l.map f)) (he : l[k]? = some e) : ∃ g o, A = some ⟨g, o, none⟩ ∧ W.cell? ⟨g, o + k, none⟩ = some (.int .u64 (f e : Nat)) := by
 obtain ⟨A', c', e1, hc⟩ := h
 obtain ⟨hk, he⟩ := List.getElem?_eq_some_iff.1 he
 obtain ⟨g, o, e2, hc2⟩ := hc k (by rw [List.length_map]; exact hk)
 rw [List.getElem_map, he] at hc2
 have e1 : A = A' := by injection e1
 exact ⟨g, o, e1.trans e2, hc2⟩
def itO : Option It → Value
 | some e => itV e.kh e.vh
 | none => itV 0 0
theorem hereB_true {key : List UInt8} {es : List It} (h : hereB key es = true) : ∃ hk : belowB key es < es.length, (es[belowB key es]).k = key := by
 unfold hereB at h
 split at h
 · rename_i e he
   obtain ⟨hk, he⟩ := List.getElem?_eq_some_iff.1 he
   exact ⟨hk, by rw [he]; exact of_decide_eq_true h⟩
 · cases h
theorem hereB_false {key : List UInt8} {es : List It} (h : hereB key es = false) : ∀ hk : belowB key es < es.length, (es[belowB key es]).k ≠ key := by
 intro hk e
 unfold hereB at h
 rw [List.getElem?_eq_getElem hk] at h
 simp only [decide_eq_false_iff_not] at h
 exact h e
def sumK {d : Nat} (x : Bt (d + 1)) (j : Nat) : Nat := (((Bn.ks x).take j).map fun k => (Bt.its k).length).sum
theorem sumK_succ {d : Nat} {x : Bt (d + 1)} {j : Nat} (h : j < (Bn.ks x).length) : sumK x (j + 1) = sumK x j + (Bt.its (Bn.ks x)[j]).length := by
 unfold sumK
 rw [List.take_succ_eq_append_getElem h, List.map_append, List.sum_append]
 simp
theorem sumK_le {S : St} {o : Nat → Nat} {t d : Nat} {x : Bt (d + 1)} (h : Bt.Walk S o t x) (j : Nat) : (Bn.es x).length + sumK x j ≤ (Bt.its x).length := by
 rw [Bt.its_length h.ok.okN]
 refine Nat.add_le_add_left ?_ _
 unfold sumK
 conv => rhs; rw [← List.take_append_drop j (Bn.ks x), List.map_append, List.sum_append]
 omega
theorem below_le {key : List UInt8} (l : List It) : belowB key l ≤ l.length := List.countP_le_length
theorem Bt.Walk.leaf {S : St} {o : Nat → Nat} {t : Nat} {x : Bt 1} (h : Walk S o t x) (key : List UInt8) : belowB key (its x) = belowB key (Bn.es x) ∧ findB key (its x) = if hereB key (Bn.es x) = true then (Bn.es x)[belowB key (Bn.es x)]? else none := by
 have hs := h.es.1
 rw [its_leaf]
 refine ⟨rfl, ?_⟩
 cases hh : hereB key (Bn.es x) with
 | true =>
  obtain ⟨hk, he⟩ := hereB_true hh
  rw [if_pos rfl, leaf_here hs hk he, List.getElem?_eq_getElem hk]
 | false => rw [if_neg (by simp)]; exact findB_none (leaf_find hs (hereB_false hh))
theorem Bt.Walk.ord {S : St} {o : Nat → Nat} {t d : Nat} {x : Bt (d + 2)} (h : Walk S o t x) (key : List UInt8) : Ord key (Bn.es x) ((Bn.ks x).map its) := ord_of h.ok.rows (by rw [← its_mk]; exact h.sorted)
theorem Bt.Walk.klen {S : St} {o : Nat → Nat} {t d : Nat} {x : Bt (d + 2)} (h : Walk S o t x) (key : List UInt8) : belowB key (Bn.es x) < (Bn.ks x).length := by have := Ok.kids h.ok; have := below_le (key := key) (Bn.es x); omega
theorem Bt.Walk.inner {S : St} {o : Nat → Nat} {t d : Nat} {x : Bt (d + 2)} (h : Walk S o t x) (key : List UInt8) (hk : belowB key (Bn.es x) < (Bn.ks x).length) :
 (hereB key (Bn.es x) = true → belowB key (its x) = belowB key (Bn.es x) + sumK x (belowB key (Bn.es x)) + (its (Bn.ks x)[belowB key (Bn.es x)]).length ∧ findB key (its x) = (Bn.es x)[belowB key (Bn.es x)]?) ∧
 (hereB key (Bn.es x) = false → belowB key (its x) = belowB key (Bn.es x) + sumK x (belowB key (Bn.es x)) + belowB key (its (Bn.ks x)[belowB key (Bn.es x)]) ∧ findB key (its x) = findB key (its (Bn.ks x)[belowB key (Bn.es x)])) := by
 have ho := h.ord key
 have hb := ho.below
 rw [← its_mk, getD_its hk] at hb
 have hsum : ((((Bn.ks x).map its).take (belowB key (Bn.es x))).map List.length).sum = sumK x (belowB key (Bn.es x)) := by
  unfold sumK
  rw [← List.map_take, List.map_map]
  rfl
 rw [hsum] at hb
 refine ⟨fun hh => ?_, fun hh => ?_⟩
 · obtain ⟨hk2, he⟩ := hereB_true hh
   obtain ⟨h1, h2⟩ := ho.here hk2 he
   rw [getD_its hk] at h2
   rw [its_mk, h1, List.getElem?_eq_getElem hk2, ← its_mk]
   exact ⟨by rw [hb, h2], rfl⟩
 · have := ho.down (hereB_false hh)
   rw [getD_its hk, ← its_mk] at this
   exact ⟨hb, this⟩
theorem Bt.Walk.inner' {S : St} {o : Nat → Nat} {t d : Nat} {x : Bt (d + 2)} (h : Walk S o t x) (key : List UInt8) {k : Nat} (hb : belowB key (Bn.es x) = k) (hk : k < (Bn.ks x).length) :
 (hereB key (Bn.es x) = true → belowB key (its x) = k + sumK x k + (its (Bn.ks x)[k]).length ∧ findB key (its x) = (Bn.es x)[k]?) ∧
 (hereB key (Bn.es x) = false → belowB key (its x) = k + sumK x k + belowB key (its (Bn.ks x)[k]) ∧ findB key (its x) = findB key (its (Bn.ks x)[k])) := by
 subst hb
 exact h.inner key hk
theorem but_class (W1 : World) (b : Nat) : ∃ I : World → Prop, (∀ w', I w' → ∀ k, k < W1.heap.size → k ≠ b → w'.heap[k]? = W1.heap[k]?) ∧ (∀ w', (∀ k, k < W1.heap.size → k ≠ b → w'.heap[k]? = W1.heap[k]?) → I w') := ⟨fun w' => ∀ k, k < W1.heap.size → k ≠ b → w'.heap[k]? = W1.heap[k]?, fun _ h => h, fun _ h => h⟩
theorem cell_of_same {w w' : World} {g o : Nat} (h : w'.heap[g]? = w.heap[g]?) : w'.cell? ⟨g, o, none⟩ = w.cell? ⟨g, o, none⟩ := World.cell?_of_block h
theorem bt_down {w : World} {ps : Nat} {S : St} {o : Nat → Nat} {Y : Nat → Prop} (h : StOn w ps S Y) {t d : Nat} {x : Bt (d + 1)} (hx : Bt.Walk S o t x) (hd : d < 40) (key : List UInt8) :
 Calls Tryz.prog 320 #[trB ps t, .int .u64 (Bt.hd x : Nat), SV key] w fun e w' => e = .returned (.tuple #[itO (Bt.findB key (Bt.its x)), .bool (Bt.findB key (Bt.its x)).isSome, .int .i64 (belowB key (Bt.its x) : Nat)]) ∧ Below w.heap.size w w' := by
 have B0 := ((Below.refl w.heap.size w).alloc (Nat.le_refl _) (.cells #[PV ps, .int .i64 t] 254)).alloc (by simp) (.cells #[.int .u64 0, .int .u64 0] 137)
 have z1 : (w.alloc (.cells #[PV ps, .int .i64 t] 254)).heap.size = w.heap.size + 1 := by simp
 have q1 := heap_alloc_new w (.cells #[PV ps, .int .i64 t] 254)
 have q2 := heap_alloc_new (w.alloc (.cells #[PV ps, .int .i64 t] 254)) (.cells #[.int .u64 0, .int .u64 0] 137)
 have q3 := (((Below.refl (w.alloc (.cells #[PV ps, .int .i64 t] 254)).heap.size (w.alloc (.cells #[PV ps, .int .i64 t] 254))).alloc (Nat.le_refl _) (.cells #[.int .u64 0, .int .u64 0] 137)).block w.heap.size (by simp)).trans q1
 rw [z1] at q2
 have hz : w.heap.size + 2 ≤ ((w.alloc (.cells #[PV ps, .int .i64 t] 254)).alloc (.cells #[.int .u64 0, .int .u64 0] 137)).heap.size := by simp
 generalize hW : (w.alloc (.cells #[PV ps, .int .i64 t] 254)).alloc (.cells #[.int .u64 0, .int .u64 0] 137) = W0 at *
 have hi := hx.fit.inv
 have hget := fun W (hw : Below W0.heap.size W0 W) {n : BN} {hh : Nat} (hb : BnAt S t hh n) => bt_get (h.below (B0.trans (hw.mono B0.size))) hi hb
 have hsize := fun W (hw : Below W0.heap.size W0 W) {n : BN} {hh : Nat} (hb : BnAt S t hh n) hz => bt_size (h.below (B0.trans (hw.mono B0.size))) hi hb hz
 have hplace := fun W (hw : Below W0.heap.size W0 W) {es : List It} {vk vv vc : Value} {sz : Nat} hk hl hs he => bt_place (h.below (B0.trans (hw.mono B0.size))) hi t (es := es) (vk := vk) (vv := vv) (vc := vc) (sz := sz) hk hl hs he key
 have HG := kq4 (And.intro B0 (And.intro q2 (And.intro q3 hz))) @hget @hsize @hplace
 have HX := Lib.hid hx
 obtain ⟨R, hR⟩ : ∃ R, Bt.findB key (Bt.its x) = R := ⟨_, rfl⟩
 obtain ⟨rb, hrb⟩ : ∃ rb, belowB key (Bt.its x) = rb := ⟨_, rfl⟩
 have hrl : rb ≤ 1000000 := by have := hx.few; have := below_le (key := key) (Bt.its x); omega
 obtain ⟨n0, hn0⟩ : ∃ n0, Bt.hd x = n0 := ⟨_, rfl⟩
 have HR := kq3 hR hrb hn0
 rw [hR, hrb, hn0]
 unfold trB at hget hsize hplace ⊢
 clear hget hsize hplace h hx hi B0 q1 q2 q3 z1 hz hR hrb hn0
 go_enter Tryz.func320, Tryz.ntmps320
 go_wp2_with fail
 clear hW
 go_loopw [1, 8, 9, 10, 11, 12, 13, 14] (fun s1 s8 _ _ _ _ _ s14 wr => ∃ (d' i b hh : Nat), s1 = .int .u64 hh ∧ s8 = .int .i64 b ∧ s14 = .int .i64 i ∧ i + d' < 40 ∧ b ≤ 1000000 ∧ Hid (Below W0.heap.size W0 wr ∧ ∃ y : Bt (d' + 1), Bt.Walk S o t y ∧ Bt.hd y = hh ∧ b + belowB key (Bt.its y) = rb ∧ Bt.findB key (Bt.its y) = R)) (fun _ _ _ _ _ _ _ s14 _ => 40 - (intOf s14).toNat)
 case atStart => exact ⟨d, 0, 0, n0, rfl, rfl, rfl, by omega, by omega, Below.refl _ _, x, HX.out, HR.out.2.2, by rw [HR.out.2.1]; omega, HR.out.1⟩
 case round =>
  obtain ⟨d', i, b, hh, rfl, rfl, rfl, hid, hbl, I⟩ := hrel
  obtain ⟨hB, y, hy, hhy, hby, hfy⟩ := I.out
  have hlt : (i : Int) < 40 := by omega
  have t3 := (hB.block w.heap.size (by have := HG.out.1.2.2.2; omega)).trans HG.out.1.2.2.1
  obtain ⟨x0, x1⟩ := cells2 t3
  have hget := HG.out.2.1 wr hB hy.read
  unfold trB bnV at hget
  rw [hhy] at hget
  have HY := kq5 hB hy hhy hby hfy
  clear hB hy hhy hby hfy t3
  obtain ⟨n, hn⟩ : ∃ n, Bt.bn y = n := ⟨_, rfl⟩
  rw [hn] at hget
  have HGT := Lib.hid hget
  clear hget
  go_wp2_with fail
  refine HGT.out.mono ?_
  rintro e w1 ⟨vk, vv, vc, rfl, rows, hb⟩
  obtain ⟨Ak, ck, rfl⟩ := rows.k.slice2
  obtain ⟨Av, cv, rfl⟩ := rows.v.slice2
  obtain ⟨Ac, cc, rfl⟩ := rows.c.slice2
  have hkl : n.keys.length = (Bn.es y).length := by rw [← hn]; unfold Bt.bn; rw [List.length_map]
  have hvl : n.vals.length = (Bn.es y).length := by rw [← hn]; unfold Bt.bn; rw [List.length_map]
  have hcl : n.kids.length = (Bn.ks y).length := by rw [← hn]; unfold Bt.bn; rw [List.length_map]
  rw [hkl] at rows
  rw [hvl] at rows
  rw [hcl] at rows
  rw [hkl, hvl, hcl]
  generalize n.size = sz at *
  have hy := HY.out.2.1
  obtain ⟨es1, es2, es3⟩ := hy.es
  generalize hlk : (Bn.es y).length = lk at *
  generalize hlc : (Bn.ks y).length = lc at *
  have A1 := (Below.refl w1.heap.size w1).alloc (Nat.le_refl _) (.cells #[.slice Ak lk ck, .slice Av lk cv, .slice Ac lc cc, .int .u64 sz] 286)
  have p1 := heap_alloc_new w1 (.cells #[.slice Ak lk ck, .slice Av lk cv, .slice Ac lc cc, .int .u64 sz] 286)
  have B1 := HY.out.1.trans ((hb.trans (A1.mono hb.size)).mono HY.out.1.size)
  have rows1 := rows.below A1
  have hlt1 : w1.heap.size < (w1.alloc (.cells #[.slice Ak lk ck, .slice Av lk cv, .slice Ac lc cc, .int .u64 sz] 286)).heap.size := by simp
  obtain ⟨W1, hW1⟩ : ∃ W1, w1.alloc (.cells #[.slice Ak lk ck, .slice Av lk cv, .slice Ac lc cc, .int .u64 sz] 286) = W1 := ⟨_, rfl⟩
  rw [hW1] at A1 p1 B1 rows1 hlt1
  have t3 := (B1.block w.heap.size (by have := HG.out.1.2.2.2; omega)).trans HG.out.1.2.2.1
  obtain ⟨x0, x1⟩ := cells2 t3
  obtain ⟨y0, y1, y2, y3⟩ := cells4 p1
  have hks : n.keys = (Bn.es y).map (·.kh) := by rw [← hn]; rfl
  have hrk := rows1.k.hrow
  rw [hks] at hrk
  have hpl := HG.out.2.2.2 W1 B1 (vv := .slice Av lk cv) (vc := .slice Ac lc cc) (sz := sz) hrk (by omega) es1 es2
  unfold trB bnV at hpl
  have HPL := Lib.hid hpl
  have hrv := rows1.v.hrow
  have hrc := rows1.c.hrow
  rw [← hn] at hrv hrc
  have hrv : HRow W1 (.slice Av lk cv) ((Bn.es y).map (·.vh)) := hrv
  have hrc : HRow W1 (.slice Ac lc cc) ((Bn.ks y).map Bt.hd) := hrc
  have q6 := (B1.block (w.heap.size + 1) (by have := HG.out.1.2.2.2; omega)).trans HG.out.1.2.1
  have hwz := HY.out.1.size
  have hz2 := HG.out.1.2.2.2
  have gek : ∀ g o, Ak = some ⟨g, o, none⟩ → w.heap.size + 1 ≠ g := fun g o e => by subst e; have := rows1.k.ge g rfl; omega
  have gev : ∀ g o, Av = some ⟨g, o, none⟩ → w.heap.size + 1 ≠ g := fun g o e => by subst e; have := rows1.v.ge g rfl; omega
  have gec : ∀ g o, Ac = some ⟨g, o, none⟩ → w.heap.size + 1 ≠ g := fun g o e => by subst e; have := rows1.c.ge g rfl; omega
  have hne1 : w.heap.size + 1 ≠ w1.heap.size := by have := hb.size; omega
  have H1 := kq6 B1 p1 (And.intro hrk (And.intro hrv hrc)) t3 hlt1 q6
  have HN := kq5 gek gev gec hne1 (Nat.le_trans hz2 hwz)
  clear gek gev gec hne1 hwz hz2
  clear hpl rows rows1 hb A1 p1 B1 t3 hrk hrv hrc hks HGT hkl hvl hcl hn es1 es2 hlt1 q6
  obtain ⟨k, hk⟩ : ∃ k, belowB key (Bn.es y) = k := ⟨_, rfl⟩
  obtain ⟨he, hhe⟩ : ∃ he, hereB key (Bn.es y) = he := ⟨_, rfl⟩
  rw [hk, hhe] at HPL
  have hkle : k ≤ lk := by rw [← hk, ← hlk]; exact below_le _
  have hwk : IntKind.i64.wrap ((b : Int) + k) = (b : Int) + k := IntWalk.i64_in _ (by omega)
  have HK := kq4 hk hhe hlk hlc
  clear hk hhe hlk hlc hy
  go_wp2_with fail
  refine HPL.out.mono ?_
  rintro e w2 ⟨rfl, hb2⟩
  have p2 := (hb2.block w1.heap.size H1.out.2.2.2.2.1).trans H1.out.2.1
  have t2 := (hb2.block w.heap.size (by have := H1.out.1.size; have := HG.out.1.2.2.2; omega)).trans H1.out.2.2.2.1
  clear x0 x1 y0 y1 y2 y3
  obtain ⟨x0, x1⟩ := cells2 t2
  obtain ⟨y0, y1, y2, y3⟩ := cells4 p2
  have HB2 := Lib.hid hb2
  clear hb2 p2 t2 HPL hW1
  cases d' with
  | zero =>
   have hc0 : lc = 0 := by rw [← HK.out.2.2.2, Bt.nil_of_zero (Bn.ks y)]; rfl
   subst hc0
   obtain ⟨hq1, hq2⟩ := HY.out.2.1.leaf key
   rw [HK.out.1, HK.out.2.1] at hq2
   rw [HK.out.1] at hq1
   have hRb : rb = b + k := by have := HY.out.2.2.2.1; rw [hq1] at this; exact this.symm
   have hRR := HY.out.2.2.2.2
   rw [hq2] at hRR
   have HRR := Lib.hid hRR
   clear hq1 hq2 hRR x0 x1 y0 y1 y2 y3
   go_wp2_with fail
   go_loopw [8, 13] (fun s8 s13 wq => s8 = .int .i64 ((b : Int) + k) ∧ s13 = .int .i64 0 ∧ wq = w2) (fun _ _ _ => 0)
   case atStart => exact ⟨rfl, rfl, rfl⟩
   case round =>
    obtain ⟨rfl, rfl, rfl⟩ := hrel
    have p2 := (HB2.out.block w1.heap.size H1.out.2.2.2.2.1).trans H1.out.2.1
    have t2 := (HB2.out.block w.heap.size (by have := H1.out.1.size; have := HG.out.1.2.2.2; omega)).trans H1.out.2.2.2.1
    have q2 := (HB2.out.block (w.heap.size + 1) (by have := H1.out.1.size; have := HG.out.1.2.2.2; omega)).trans H1.out.2.2.2.2.2
    obtain ⟨x0, x1⟩ := cells2 t2
    obtain ⟨y0, y1, y2, y3⟩ := cells4 p2
    obtain ⟨z0, z1⟩ := cells2 q2
    obtain ⟨f0, f1⟩ := frees2 q2
    cases he with
    | true =>
     obtain ⟨hkk, hek⟩ := hereB_true HK.out.2.1
     have hkl := HK.out.2.2.1
     obtain ⟨e, hee⟩ : ∃ e, (Bn.es y)[k]? = some e := by rw [← HK.out.1]; exact ⟨_, List.getElem?_eq_getElem hkk⟩
     have hkn : k < lk := by rw [← HK.out.1, ← hkl]; exact hkk
     have hkn2 : (k : Int) < lk := by omega
     rw [if_pos rfl, hee] at HRR
     obtain ⟨gk, ok, rfl, hck⟩ := HRow.at H1.out.2.2.1.1 hee
     obtain ⟨gv, ov, rfl, hcv⟩ := HRow.at (f := fun d : It => d.vh) (l := Bn.es y) H1.out.2.2.1.2.1 hee
     have dk := (HB2.out.cell (p := ⟨gk, ok + k, none⟩) (hcell_lt hck)).trans hck
     have dv := (HB2.out.cell (p := ⟨gv, ov + k, none⟩) (hcell_lt hcv)).trans hcv
     have HQ := Lib.hid q2
     clear hck hcv hee hkk hek hkl p2 t2 q2
     go_wp2_with fail
     go_region
     go_wp2_with fail
     have BW : Below w.heap.size w wr := HG.out.1.1.trans ((H1.out.1.trans (HB2.out.mono H1.out.1.size)).mono HG.out.1.1.size)
     have eW := st2_heap HQ.out (.int .u64 (e.kh : Nat)) (.int .u64 (e.vh : Nat))
     have BF := st2_below BW (b := w.heap.size + 1) (by omega) (.int .u64 (e.kh : Nat)) (.int .u64 (e.vh : Nat))
     generalize ((wr.setCell ⟨w.heap.size + 1, 0, none⟩ (.int .u64 (e.kh : Nat))).setCell ⟨w.heap.size + 1, 1, none⟩ (.int .u64 (e.vh : Nat))) = WF at *
     have eW : WF.drew.heap[w.heap.size + 1]? = _ := eW
     obtain ⟨e0, e1⟩ := cells2 eW
     exact bodyPost_ret (v := .tuple #[.agg #[.int .u64 (e.kh : Nat), .int .u64 (e.vh : Nat)], .bool true, .int .i64 ((b : Int) + k)]) (by simp [results, Tryz.f320, go_sem, e0, e1]) rfl ⟨by rw [← HRR.out, hRb]; rfl, BF.drew⟩
    | false =>
     rw [if_neg (by simp)] at HRR
     have HQ := Lib.hid q2
     clear p2 t2 q2
     go_wp2_with fail
     have BW : Below w.heap.size w wr := HG.out.1.1.trans ((H1.out.1.trans (HB2.out.mono H1.out.1.size)).mono HG.out.1.1.size)
     have eW := st2_heap HQ.out (.int .u64 0) (.int .u64 0)
     have BF := st2_below BW (b := w.heap.size + 1) (by omega) (.int .u64 0) (.int .u64 0)
     generalize ((wr.setCell ⟨w.heap.size + 1, 0, none⟩ (.int .u64 0)).setCell ⟨w.heap.size + 1, 1, none⟩ (.int .u64 0)) = WF at *
     obtain ⟨e0, e1⟩ := cells2 eW
     exact bodyPost_ret (v := .tuple #[.agg #[.int .u64 0, .int .u64 0], .bool false, .int .i64 ((b : Int) + k)]) (by simp [results, Tryz.f320, go_sem, e0, e1]) rfl ⟨by rw [← HRR.out, hRb]; rfl, BF⟩
  | succ d' =>
   have hy := HY.out.2.1
   have hkl2 := hy.klen key
   rw [HK.out.1] at hkl2
   have hin := hy.inner' key HK.out.1 hkl2
   rw [HK.out.2.1] at hin
   have hlc := HK.out.2.2.2
   have hlkk := HK.out.2.2.1
   have hlc0 : (0 : Int) < lc := by omega
   have hkc : (k : Int) < lc := by omega
   have hsl := sumK_le hy
   have hfew := hy.few
   have hsz : ∀ W, Below W1.heap.size W1 W → ∀ j (h : j < (Bn.ks y).length), Calls Tryz.prog 163 #[.agg #[PV ps, .int .i64 t], .int .u64 (Bt.hd (Bn.ks y)[j] : Nat)] W fun e w' => e = .returned (.int .i64 ((Bt.its (Bn.ks y)[j]).length : Nat)) ∧ Below W.heap.size W w' := fun W hW j h => by
    have hkj := hy.kid (List.getElem_mem h)
    have := HG.out.2.2.1 W (H1.out.1.trans (hW.mono H1.out.1.size)) hkj.read hkj.size.2
    unfold trB at this
    exact this
   obtain ⟨su, hsu⟩ : ∃ su : Nat → Nat, sumK y = su := ⟨_, rfl⟩
   have hss := fun j h => sumK_succ (x := y) (j := j) h
   have hsu0 : su 0 = 0 := by rw [← hsu]; simp [sumK]
   rw [hsu] at hin hsl
   simp only [hsu] at hss
   have HZ := kq9 hy hin hsl hfew hsz hss hkl2 hlc hlkk
   clear hin hsl hfew hsz hss hsu x0 x1 y0 y1 y2 y3 hlc hlkk
   go_wp2_with fail
   go_loopw [8, 13] (fun s8 s13 wr => ∃ j : Nat, j ≤ k ∧ s8 = .int .i64 ((b : Int) + k + (su j : Nat)) ∧ s13 = .int .i64 j ∧ Hid (Below W1.heap.size W1 wr)) (fun _ s13 _ => k - (intOf s13).toNat)
   case atStart => exact ⟨0, by omega, by rw [hsu0]; simp, rfl, HB2⟩
   case round =>
    obtain ⟨j, hjk, rfl, rfl, HBr⟩ := hrel
    have p2 := (HBr.out.block w1.heap.size H1.out.2.2.2.2.1).trans H1.out.2.1
    have t2 := (HBr.out.block w.heap.size (by have := H1.out.1.size; have := HG.out.1.2.2.2; omega)).trans H1.out.2.2.2.1
    have q2 := (HBr.out.block (w.heap.size + 1) (by have := H1.out.1.size; have := HG.out.1.2.2.2; omega)).trans H1.out.2.2.2.2.2
    obtain ⟨x0, x1⟩ := cells2 t2
    obtain ⟨y0, y1, y2, y3⟩ := cells4 p2
    obtain ⟨z0, z1⟩ := cells2 q2
    obtain ⟨f0, f1⟩ := frees2 q2
    have hjc : j < (Bn.ks y).length := by have := HZ.out.2.2.2.2.2.2.1; omega
    have hee : (Bn.ks y)[j]? = some (Bn.ks y)[j] := List.getElem?_eq_getElem hjc
    obtain ⟨gc, oc, rfl, hcc⟩ := HRow.at (f := Bt.hd) (l := Bn.ks y) H1.out.2.2.1.2.2 hee
    obtain ⟨kj, hkj⟩ : ∃ kj, (Bn.ks y)[j] = kj := ⟨_, rfl⟩
    obtain ⟨nj, hnj⟩ : ∃ nj, Bt.hd kj = nj := ⟨_, rfl⟩
    obtain ⟨zj, hzj⟩ : ∃ zj, (Bt.its kj).length = zj := ⟨_, rfl⟩
    have hsj := fun W hW => HZ.out.2.2.2.2.1 W hW j hjc
    rw [hkj, hnj] at hsj
    rw [hkj, hnj] at hcc
    rw [hzj] at hsj
    have hsum := HZ.out.2.2.2.2.2.1 j hjc
    rw [hkj, hzj] at hsum
    have hb8 := HZ.out.2.2.1 j
    have hb9 := HZ.out.2.2.1 (j + 1)
    have hb7 := HZ.out.2.2.2.1
    have hgc := HN.out.2.2.1 gc oc rfl
    have dc := (HBr.out.cell (p := ⟨gc, oc + j, none⟩) (hcell_lt hcc)).trans hcc
    have hjn : (j : Int) < lc := by omega
    have hwj : IntKind.i64.wrap ((b : Int) + k + (su j : Nat) + (zj : Nat)) = (b : Int) + k + (su j : Nat) + (zj : Nat) := IntWalk.i64_in _ (by omega)
    obtain ⟨I, hIi, hIo⟩ := but_class W1 (w.heap.size + 1)
    have hz1 := fun x : Keeps I => (hIi _ x.ok w1.heap.size H1.out.2.2.2.2.1 (Ne.symm HN.out.2.2.2.1)).trans H1.out.2.1
    have hz2 := fun x : Keeps I => (hIi _ x.ok w.heap.size (by have := H1.out.1.size; have := HG.out.1.2.2.2; omega) (by omega)).trans H1.out.2.2.2.1
    obtain ⟨m0, m1, m2, m3⟩ := cellsX4 hz1
    obtain ⟨n0, n1⟩ := cellsX2 hz2
    have o0 : ∀ x : Keeps I, x.to.cell? ⟨gc, oc + j, none⟩ = some (.int .u64 nj) := fun x => (cell_of_same (hIi _ x.ok gc (hcell_lt hcc) (Ne.symm hgc))).trans hcc
    have hI0 : I wr.drew := hIo _ fun k hk _ => HBr.out.block k hk
    have HI := Lib.hid hIo
    have HS := Lib.hid hsj
    have HQ := Lib.hid q2
    have HJ := kq6 hkj hnj hzj hsum hcc hgc
    clear hIo hz1 hz2 hee hsj hcc p2 t2 q2 hkj hnj hzj hsum hgc
    by_cases hjlt : j < k
    · have hjlt2 : (j : Int) < k := by omega
      go_wp2_with fail
      refine wp_region_plan I (.take 0 (.take 1 (.take 2 (.take 3 (.take 4 (.take 5 (.take 6 (.go 7 (.take 8 (.take 9 .nil)))))))))) (by kernel_rfl) (by kernel_rfl) hI0 ?_
      iterate 7
       refine' plan_take _ (by rfl) _ (by rfl) ?_ ?_
       rotate_left
       · rintro _ ⟨x, rfl⟩
         have hxm0 := m0 x
         have hxm1 := m1 x
         have hxm2 := m2 x
         have hxm3 := m3 x
         have hxn0 := n0 x
         have hxn1 := n1 x
         have hxo0 := o0 x
         go_simp
         try with_reducible rfl
       try simp only [pu]
      refine pD fun K hK => ?_
      go_simp
      refine (HS.out wr.drew HBr.out.drew).mono ?_
      rintro e w3 ⟨rfl, hb3⟩
      have B3 := HBr.out.drew.trans (hb3.mono HBr.out.size)
      have HB3 := Lib.hid B3
      clear hb3
      try go_simp
      refine hK.out _ _ (HI.out _ fun k hk _ => HB3.out.block k hk) ?_
      clear hK K
      try simp only [pu]
      clear B3
      iterate 2
       refine' plan_take _ (by rfl) _ (by rfl) ?_ ?_
       rotate_left
       · rintro _ ⟨x, rfl⟩
         go_simp
         try with_reducible rfl
       try simp only [pu]
      refine plan_nil ?_
      go_wp2_with fail
      go_roundw
      case rel => exact ⟨j + 1, by omega, by rw [HJ.out.2.2.2.1]; congr 1; omega, by simp, HB3⟩
      case measure => simp [intOf]; omega
    · obtain rfl : j = k := by omega
      have hjlt2 : ¬ (j : Int) < j := by omega
      cases he with
      | true =>
       obtain ⟨f1, f2⟩ := HZ.out.2.1.1 rfl
       obtain ⟨hkk, hek⟩ := hereB_true HK.out.2.1
       obtain ⟨e, hee⟩ : ∃ e, (Bn.es y)[j]? = some e := by rw [← HK.out.1]; exact ⟨_, List.getElem?_eq_getElem hkk⟩
       have hkn : j < lk := by rw [← HK.out.1, ← HK.out.2.2.1]; exact hkk
       have hkn2 : (j : Int) < lk := by omega
       have e1 := HY.out.2.2.2.1
       have e2 := HY.out.2.2.2.2
       rw [f1, HJ.out.1, HJ.out.2.2.1] at e1
       rw [f2, hee] at e2
       have HE := kq2 e1 e2
       obtain ⟨gk, ok, rfl, hck⟩ := HRow.at (f := fun d : It => d.kh) (l := Bn.es y) H1.out.2.2.1.1 hee
       obtain ⟨gv, ov, rfl, hcv⟩ := HRow.at (f := fun d : It => d.vh) (l := Bn.es y) H1.out.2.2.1.2.1 hee
       have hgk := HN.out.1 gk ok rfl
       have hgv := HN.out.2.1 gv ov rfl
       have o1 : ∀ x : Keeps I, x.to.cell? ⟨gk, ok + j, none⟩ = some (.int .u64 (e.kh : Nat)) := fun x => (cell_of_same (hIi _ x.ok gk (hcell_lt hck) (Ne.symm hgk))).trans hck
       have o2 : ∀ x : Keeps I, x.to.cell? ⟨gv, ov + j, none⟩ = some (.int .u64 (e.vh : Nat)) := fun x => (cell_of_same (hIi _ x.ok gv (hcell_lt hcv) (Ne.symm hgv))).trans hcv
       clear e1 e2 f1 f2 hee hkk hek hck hcv hgk hgv
       go_wp2_with fail
       refine wp_region_plan I (.take 0 (.take 1 (.take 2 (.take 3 (.take 4 (.take 5 (.take 6 (.take 7 (.take 8 (.take 9 (.take 10 (.take 11 (.take 12 (.take 13 (.take 14 (.take 15 (.take 16 (.take 17 (.go 18 (.take 19 (.go 20 (.take 21 (.take 22 .nil))))))))))))))))))))))) (by kernel_rfl) (by kernel_rfl) hI0 ?_
       iterate 18
        refine' plan_take _ (by rfl) _ (by rfl) ?_ ?_
        rotate_left
        · rintro _ ⟨x, rfl⟩
          have hxm0 := m0 x
          have hxm1 := m1 x
          have hxm2 := m2 x
          have hxm3 := m3 x
          have hxn0 := n0 x
          have hxn1 := n1 x
          have hxo0 := o0 x
          have hxo1 := o1 x
          have hxo2 := o2 x
          go_simp
          try with_reducible rfl
        try simp only [pu]
       refine pD fun K hK => ?_
       go_simp
       refine (HS.out wr.drew HBr.out.drew).mono ?_
       rintro e' w3 ⟨rfl, hb3⟩
       have B3 := HBr.out.drew.trans (hb3.mono HBr.out.size)
       have q3 := (hb3.block (w.heap.size + 1) (gl HQ.out)).trans HQ.out
       have HB3 := kq2 B3 q3
       obtain ⟨c0, c1⟩ := cells2 q3
       obtain ⟨g0, g1⟩ := frees2 q3
       clear hb3 q3
       try go_simp
       refine hK.out _ _ (HI.out _ fun k hk _ => HB3.out.1.block k hk) ?_
       clear hK K
       try simp only [pu]
       clear B3
       refine' plan_take _ (by rfl) _ (by rfl) ?_ ?_
       rotate_left
       · rintro _ ⟨x, rfl⟩
         go_simp
         try with_reducible rfl
       try simp only [pu]
       refine pD fun K hK => ?_
       go_simp
       try go_simp
       refine hK.out _ _ (HI.out _ fun k hk hne => (st2_other hne _ _).trans (HB3.out.1.block k hk)) ?_
       clear hK K
       try simp only [pu]
       iterate 2
        refine' plan_take _ (by rfl) _ (by rfl) ?_ ?_
        rotate_left
        · rintro _ ⟨x, rfl⟩
          go_simp
          try with_reducible rfl
        try simp only [pu]
       refine plan_nil ?_
       go_wp2_with fail
       have BW : Below w.heap.size w w3 := HG.out.1.1.trans ((H1.out.1.trans (HB3.out.1.mono H1.out.1.size)).mono HG.out.1.1.size)
       have eW := st2_heap HB3.out.2 (.int .u64 (e.kh : Nat)) (.int .u64 (e.vh : Nat))
       have BF := st2_below BW (b := w.heap.size + 1) (by omega) (.int .u64 (e.kh : Nat)) (.int .u64 (e.vh : Nat))
       generalize ((w3.setCell ⟨w.heap.size + 1, 0, none⟩ (.int .u64 (e.kh : Nat))).setCell ⟨w.heap.size + 1, 1, none⟩ (.int .u64 (e.vh : Nat))) = WF at *
       obtain ⟨e0, e1⟩ := cells2 eW
       have hcast : ((b + (j + su j + zj) : Nat) : Int) = (b : Int) + j + (su j : Nat) + (zj : Nat) := by omega
       exact bodyPost_ret (v := .tuple #[.agg #[.int .u64 (e.kh : Nat), .int .u64 (e.vh : Nat)], .bool true, .int .i64 ((b : Int) + j + (su j : Nat) + (zj : Nat))]) (by simp [results, Tryz.f320, go_sem, e0, e1]) rfl ⟨by rw [← HE.out.2, ← HE.out.1, hcast]; rfl, BF⟩
      | false =>
       go_wp2_with fail
       go_roundw
       case rel =>
        obtain ⟨f1, f2⟩ := HZ.out.2.1.2 rfl
        have e1 := HY.out.2.2.2.1
        rw [f1, HJ.out.1] at e1
        refine ⟨d', i + 1, b + j + su j, nj, rfl, by congr 1, by simp, by omega, by omega, H1.out.1.trans (HBr.out.mono H1.out.1.size), kj, ?_, HJ.out.2.1, ?_, ?_⟩
        · rw [← HJ.out.1]; exact HZ.out.1.kid (List.getElem_mem _)
        · omega
        · have := HY.out.2.2.2.2; rw [f2, HJ.out.1] at this; exact this
       case measure => simp [intOf]; omega
theorem btree_find {w : World} {ps : Nat} {t hh : Nat} {R : Option It} {z : Nat} {key : List UInt8} (hs : Calls Tryz.prog 320 #[trB ps t, .int .u64 hh, SV key] w fun e w' => e = .returned (.tuple #[itO R, .bool R.isSome, .int .i64 z]) ∧ Below w.heap.size w w') (hw : ∀ W, W = w.alloc (.cells #[.int .u64 0, .int .u64 0] 137) → Calls Tryz.prog 320 #[trB ps t, .int .u64 hh, SV key] W fun e w' => e = .returned (.tuple #[itO R, .bool R.isSome, .int .i64 z]) ∧ Below W.heap.size W w') :
 Calls Tryz.prog 315 #[PV ps, .int .i64 t, .int .u64 hh, SV key] w fun e w' => e = .returned (.tuple #[itO R, .bool R.isSome]) ∧ Below w.heap.size w w' := by
 have q1 := heap_alloc_new w (.cells #[.int .u64 0, .int .u64 0] 137)
 have B0 := (Below.refl w.heap.size w).alloc (Nat.le_refl _) (.cells #[.int .u64 0, .int .u64 0] 137)
 obtain ⟨W0, hW⟩ : ∃ W0, w.alloc (.cells #[.int .u64 0, .int .u64 0] 137) = W0 := ⟨_, rfl⟩
 rw [hW] at q1 B0
 have hs := hw W0 hW.symm
 have hRz : ∃ k v : Nat, itO R = .agg #[.int .u64 k, .int .u64 v] := by
  cases R with
  | none => exact ⟨0, 0, rfl⟩
  | some e => exact ⟨e.kh, e.vh, rfl⟩
 obtain ⟨k, v, hR⟩ := hRz
 rw [hR] at hs ⊢
 generalize R.isSome = b at *
 unfold trB at hs
 have HG := kq3 hs B0 q1
 clear hs hw B0 q1 hR
 go_enter Tryz.func315, Tryz.ntmps315
 go_wp2_with fail
 refine HG.out.1.mono ?_
 rintro e w1 ⟨rfl, hb⟩
 have A1 := (Below.refl w1.heap.size w1).alloc (Nat.le_refl _) (.cells #[.int .u64 k, .int .u64 v] 137)
 have r1 := (hb.block w.heap.size (gl HG.out.2.2)).trans HG.out.2.2
 have r2 := (A1.block w.heap.size (gl r1)).trans r1
 have B1 := HG.out.2.1.trans ((hb.trans (A1.mono hb.size)).mono HG.out.2.1.size)
 have p1 := heap_alloc_new w1 (.cells #[.int .u64 k, .int .u64 v] 137)
 obtain ⟨W1, hW1⟩ : ∃ W1, w1.alloc (.cells #[.int .u64 k, .int .u64 v] 137) = W1 := ⟨_, rfl⟩
 rw [hW1] at r2 B1 p1
 obtain ⟨x0, x1⟩ := cells2 p1
 obtain ⟨y0, y1⟩ := cells2 r2
 obtain ⟨f0, f1⟩ := frees2 r2
 have HB := kq2 B1 r2
 clear hb A1 r1 r2 B1 p1 hW
 go_wp2_with fail
 have eW := st2_heap HB.out.2 (.int .u64 (k : Nat)) (.int .u64 (v : Nat))
 have BF := st2_below HB.out.1 (b := w.heap.size) (Nat.le_refl _) (.int .u64 (k : Nat)) (.int .u64 (v : Nat))
 generalize ((W1.setCell ⟨w.heap.size, 0, none⟩ (.int .u64 (k : Nat))).setCell ⟨w.heap.size, 1, none⟩ (.int .u64 (v : Nat))) = WF at *
 obtain ⟨e0, e1⟩ := cells2 eW
 exact bodyPost_ret (v := .tuple #[.agg #[.int .u64 (k : Nat), .int .u64 (v : Nat)], .bool b]) (by simp [results, Tryz.f315, go_sem, e0, e1]) rfl ⟨rfl, BF⟩
theorem btree_rank {w : World} {ps : Nat} {t hh : Nat} {R : Option It} {z : Nat} {key : List UInt8} (hs : Calls Tryz.prog 320 #[trB ps t, .int .u64 hh, SV key] w fun e w' => e = .returned (.tuple #[itO R, .bool R.isSome, .int .i64 z]) ∧ Below w.heap.size w w') :
 Calls Tryz.prog 317 #[PV ps, .int .i64 t, .int .u64 hh, SV key] w fun e w' => e = .returned (.int .i64 z) ∧ Below w.heap.size w w' := by
 have hRz : ∃ k v : Nat, itO R = .agg #[.int .u64 k, .int .u64 v] := by
  cases R with
  | none => exact ⟨0, 0, rfl⟩
  | some e => exact ⟨e.kh, e.vh, rfl⟩
 obtain ⟨k, v, hR⟩ := hRz
 rw [hR] at hs
 generalize R.isSome = b at *
 unfold trB at hs
 have HG := Lib.hid hs
 clear hs hR
 go_enter Tryz.func317, Tryz.ntmps317
 go_wp2_with fail
 refine HG.out.mono ?_
 rintro e w1 ⟨rfl, hb⟩
 have HB := Lib.hid (hb.alloc hb.size (.cells #[.int .u64 k, .int .u64 v] 137))
 clear hb
 go_wp2_with fail
 go_ret
 exact ⟨rfl, HB.out⟩
end Go.Proofs.YtcibkdbpicledaaGreatDoor
namespace Go.Proofs.YtcibkdbpicledaaGreatDoor
open Lf Tr
namespace Bt
theorem put_node {S : St} {o : Nat → Nat} (hf : Fit S o) {t d : Nat} {x : Bt (d + 1)} (hk : ∀ k ∈ Bn.ks x, At S t k) (hn : ∀ k ∈ Bn.ks x, hd x ∉ nodes k) {ws : List Nat} (hr : reco S (hd x) = some ws) (hw : ws.length = 6 * t) (hl : BnLt (bn x)) (he : (Bn.es x).length < 1000) :
 Fit (putWords S (hd x) 0 (bnWords t (bn x))) o ∧ At (putWords S (hd x) 0 (bnWords t (bn x))) t x ∧ (∀ h, h ≠ hd x → reco (putWords S (hd x) 0 (bnWords t (bn x))) h = reco S h) ∧ Grew S (putWords S (hd x) 0 (bnWords t (bn x))) 0 0 := by
 obtain ⟨q1, q2, q3, q4⟩ := look_putAll hf hr (l := bnWords t (bn x)) (by rw [bnWords_length, hw]) (bnWords_lt hl (by unfold bn; rw [List.length_map]; omega))
 refine ⟨q1, ⟨q2, fun k hkm => (hk k hkm).frame fun h hm => q3 h fun e => hn k hkm (e ▸ hm)⟩, q3, q4⟩
end Bt
end Go.Proofs.YtcibkdbpicledaaGreatDoor
namespace Go.Proofs.YtcibkdbpicledaaGreatDoor
open Go.RowKit Go.BigFrame Go.Maps Go.WideMaps Lf Tr
open Go.Shelf
theorem tab_lt {w : World} {ps : Nat} {S : St} {Y : Nat → Prop} (h : StOn w ps S Y) : tabB < w.heap.size := by
 obtain ⟨pa, pm, ph, pt, v, h⟩ := h
 exact h.heap.yl _ (Or.inr (Or.inr (Or.inr (Or.inl rfl))))
theorem StOn.grown {w w' : World} {ps : Nat} {S : St} {Y : Nat → Prop} {row : Option Nat} (h : StOn w ps S Y) (hg : w.grownBy w' row) (hr : ∀ g, row = some g → Y g ∧ g ≠ tabB ∧ ∃ cs fr, w.heap[g]? = some (.cells cs 83 fr)) : StOn w' ps S (fun k => Y k ∨ (w.heap.size ≤ k ∧ k < w'.heap.size)) := by
 cases row with
 | none => exact h.wide ⟨hg.os, hg.tape, hg.output, hg.size, fun k hk => hg.block k hk (by simp)⟩
 | some g =>
  obtain ⟨h1, h2, cs, fr, h3⟩ := hr g rfl
  have hgl := (gl h3)
  obtain ⟨w2, hw2⟩ : ∃ w2 : World, w2 = { w' with heap := w'.heap.setIfInBounds g (.cells cs 83 fr) } := ⟨_, rfl⟩
  have hs2 : w2.heap.size = w'.heap.size := by rw [hw2]; simp
  have hb2 : ∀ k, w2.heap[k]? = if g = k then some (.cells cs 83 fr) else w'.heap[k]? := fun k => by
   rw [hw2]
   show (w'.heap.setIfInBounds g _)[k]? = _
   rw [Array.getElem?_setIfInBounds]
   split
   · rename_i e; subst e; rw [if_pos (by have := hg.size; omega)]
   · rfl
  have hbel : Below w.heap.size w w2 := by
   refine ⟨by rw [hw2]; exact hg.os, by rw [hw2]; exact hg.tape, by rw [hw2]; exact hg.output, by rw [hs2]; exact hg.size, fun k hk => ?_⟩
   rw [hb2]
   split
   · rename_i e; subst e; exact h3.symm
   · rename_i e; exact hg.block k hk (fun q => e (Option.some.inj q).symm)
  have hz := h.wide hbel
  rw [hs2] at hz
  obtain ⟨pa, pm, ph, pt, v, hz⟩ := hz
  refine ⟨pa, pm, ph, pt, v, hz.of_keep (by rw [hs2]; exact Nat.le_refl _) fun k hk hc => ?_⟩
  have hne : k ≠ g := by
   rintro rfl
   rcases hc with hc | rfl | rfl | rfl
   · exact hc (Or.inl h1)
   · have := hz.hd
     rw [hb2, if_pos rfl] at this
     injection this with this
     injection this with _ this
     exact absurd this (by decide)
   · have := hz.heap.hp
     rw [hb2, if_pos rfl] at this
     injection this with this
     injection this with _ this
     exact absurd this (by decide)
   · exact h2 rfl
  rw [hb2, if_neg (fun e => hne e.symm)]
structure Spare (S : St) (t : Nat) (L : List Nat) : Prop where
 nd : L.Nodup
 recs : ∀ h ∈ L, ∃ ws, reco S h = some ws ∧ ws.length = 6 * t
theorem spare_make {S : St} {o : Nat → Nat} (hf : Fit S o) {t : Nat} (t1 : 2 ≤ t) (t2 : t ≤ 16) (hr : Space S 2 1) :
 ∃ h S1 o1, S.make (6 * t) = ((h, 0), S1) ∧ MkOk S (6 * t) ∧ h < 18446744073709551616 ∧ S1.len h = (6 * t, 0) ∧ Fit (putWords S1 h 0 (bnWords t bn0)) o1 ∧ reco S h = none ∧ (∃ ws, reco (putWords S1 h 0 (bnWords t bn0)) h = some ws ∧ ws.length = 6 * t) ∧ (∀ h', h' ≠ h → reco (putWords S1 h 0 (bnWords t bn0)) h' = reco S h') ∧ Grew S (putWords S1 h 0 (bnWords t bn0)) 2 1 := by
 have hcp : classPages (6 * t + 2) ≤ 2 := Nat.le_trans (classPages_small (by omega) (by omega)) (by omega)
 have hr2 := hr.mono hcp (Nat.le_refl 1)
 obtain ⟨h, S1, o1, ws, e, hf1, hn, hlen, hl, ho, hg, _⟩ := make_fit hf (n := 6 * t) (by omega) hr2
 have hok := make_ok hf (n := 6 * t) (by omega) hr2
 obtain ⟨q1, q2, q3, q4⟩ := look_putAll hf1 hl (l := bnWords t bn0) (by rw [bnWords_length, hlen]) (bn0_lt t)
 exact ⟨h, S1, o1, e, hok, (look_ok hf1 hl).2.1, by rw [look_len hf1.tab hl, hlen], q1, hn, ⟨_, q2, bnWords_length _ _⟩, fun h' hne => (q3 h' hne).trans (ho h' hne), (hg.trans q4).mono (by omega) (by omega)⟩
structure SpOn (w : World) (bt bl D ps t : Nat) (v : Value) (L : List Nat) : Prop where
 box : w.heap[bl]? = some (.cells #[v] 229 (0, 0))
 tree : w.heap[bt]? = some (.cells #[PV ps, .int .i64 t] 254 (0, 0))
 row : OwnH w D v L
 lo : bl < D ∧ bt < D ∧ bl ≠ bt
def SpY (bt bl : Nat) (v : Value) : Nat → Prop := fun k => k = bt ∨ k = bl ∨ v.ownBlock = some k
theorem bt_maker {w : World} {ps : Nat} {S : St} {o : Nat → Nat} {Y : Nat → Prop} (h : StOn w ps S Y) (hf : Fit S o) {t : Nat} (t1 : 2 ≤ t) (t2 : t ≤ 16) (n : Nat) (hn : n ≤ 1000) (hr : Space S (2 * n) n) :
 Calls Tryz.prog 322 #[trB ps t, .int .i64 n] w fun e w' => e = .returned (.tuple #[.func (.func 331) #[] #[PV (w.heap.size + 1), PV w.heap.size], .int .i64 0]) ∧
  ∃ S' o' v L, StOn w' ps S' (fun k => Y k ∨ SpY w.heap.size (w.heap.size + 1) v k) ∧ Keep Y w w' ∧ SpOn w' w.heap.size (w.heap.size + 1) (w.heap.size + 2) ps t v L ∧ Fit S' o' ∧ L.length = n ∧ Spare S' t L ∧ (∀ h ∈ L, reco S h = none) ∧ (∀ h, h ∉ L → reco S' h = reco S h) ∧ Grew S S' (2 * n) n := by
 have B0 := ((Below.refl w.heap.size w).alloc (Nat.le_refl _) (.cells #[PV ps, .int .i64 t] 254)).alloc (by simp) (.cells #[.slice none 0 0] 229)
 have z1 : (w.alloc (.cells #[PV ps, .int .i64 t] 254)).heap.size = w.heap.size + 1 := by simp
 have q1 := heap_alloc_new w (.cells #[PV ps, .int .i64 t] 254)
 have q2 := heap_alloc_new (w.alloc (.cells #[PV ps, .int .i64 t] 254)) (.cells #[.slice none 0 0] 229)
 have q3 := (((Below.refl (w.alloc (.cells #[PV ps, .int .i64 t] 254)).heap.size (w.alloc (.cells #[PV ps, .int .i64 t] 254))).alloc (Nat.le_refl _) (.cells #[.slice none 0 0] 229)).block w.heap.size (by simp)).trans q1
 rw [z1] at q2
 have hz : ((w.alloc (.cells #[PV ps, .int .i64 t] 254)).alloc (.cells #[.slice none 0 0] 229)).heap.size = w.heap.size + 2 := by simp
 have hY := h.yl
 have htb := tab_lt h
 have hst0 := (h.wide B0).mono (Z := fun k => Y k ∨ SpY w.heap.size (w.heap.size + 1) (.slice none 0 0) k) fun k hk => hk.imp id fun hk => by
  rcases hk with rfl | rfl | hk
  · exact ⟨Nat.le_refl _, by rw [hz]; omega⟩
  · exact ⟨by omega, by rw [hz]; omega⟩
  · cases hk
 have hk0 := h.keep B0
 generalize hW : (w.alloc (.cells #[PV ps, .int .i64 t] 254)).alloc (.cells #[.slice none 0 0] 229) = W0 at *
 have HG := kq4 hf hr hY htb
 have H0 := kq4 hst0 hk0 q2 q3
 have HZ := Lib.hid hz
 unfold trB
 clear h hf hr B0 z1 q1 q2 q3 hst0 hk0 hY htb hz
 go_enter Tryz.func322, Tryz.ntmps322
 go_wp2_with fail
 clear hW
 go_loopw [7, 8, 10, 12] (fun _ _ _ s12 wr => ∃ j : Nat, j ≤ n ∧ s12 = .int .i64 j ∧ Hid (∃ S' o' v L, StOn wr ps S' (fun k => Y k ∨ SpY w.heap.size (w.heap.size + 1) v k) ∧ Keep Y w wr ∧ w.heap.size + 2 ≤ wr.heap.size ∧ SpOn wr w.heap.size (w.heap.size + 1) (w.heap.size + 2) ps t v L ∧ Fit S' o' ∧ L.length = j ∧ Spare S' t L ∧ (∀ h ∈ L, reco S h = none) ∧ (∀ h, h ∉ L → reco S' h = reco S h) ∧ Grew S S' (2 * j) j)) (fun _ _ _ s12 _ => n - (intOf s12).toNat)
 case atStart => exact ⟨0, by omega, rfl, S, o, .slice none 0 0, [], H0.out.1, H0.out.2.1, by rw [HZ.out]; exact Nat.le_refl _, ⟨H0.out.2.2.1, H0.out.2.2.2, World.ownsRow_nil _ _ _ _, by omega⟩, HG.out.1, rfl, ⟨List.nodup_nil, fun _ hh => (nomatch hh)⟩, fun _ hh => (nomatch hh), fun _ _ => rfl, Grew.refl S⟩
 case round =>
  obtain ⟨j, hjn, rfl, I⟩ := hrel
  obtain ⟨S', o', v, L, st, kp, hsz, sp, hf, hL, spa, hnew, hfr, hgr⟩ := I.out
  by_cases hlt : j < n
  · have hlt2 : (j : Int) < n := by omega
    have hsp := (HG.out.2.1.mono (p' := 2 * j + 2) (q' := j + 1) (by omega) (by omega)).grew hgr
    obtain ⟨hh, S1, o1, e, hok, hhl, hlen, f2, hno, hws, hot, g2⟩ := spare_make hf t1 t2 hsp
    have hmk := bnode_make0 st hf.inv t1 t2 hok e hhl hlen
    obtain ⟨S2, hS2⟩ : ∃ S2, putWords S1 hh 0 (bnWords t bn0) = S2 := ⟨_, rfl⟩
    rw [hS2] at hmk f2 hws hot g2
    unfold bnV at hmk
    have t3 := sp.tree
    obtain ⟨x0, x1⟩ := cells2 t3
    have HM := Lib.hid hmk
    have HI := Lib.hid (And.intro st (And.intro kp (And.intro sp (And.intro f2 (And.intro hL (And.intro spa (And.intro hnew (And.intro hfr (And.intro hgr (And.intro hno (And.intro hws (And.intro hot (And.intro g2 hsz)))))))))))))
    clear st kp sp hf spa hnew hfr hgr hsp e hok hlen f2 hno hws hot g2 hmk t3 hS2 hL hsz
    go_wp2_with fail
    refine HM.out.mono ?_
    rintro e w1 ⟨rfl, st1, k1⟩
    have b1 := (k1.block (w.heap.size + 1) (Or.inr (Or.inr (Or.inl rfl)))).trans HI.out.2.2.1.box
    have tr1 := (k1.block w.heap.size (Or.inr (Or.inl rfl))).trans HI.out.2.2.1.tree
    have own1 : OwnH w1 (w.heap.size + 2) v L := HI.out.2.2.1.row.at fun g e => k1.block g (Or.inr (Or.inr (Or.inr e)))
    have hDs : w.heap.size + 2 ≤ w1.heap.size := Nat.le_trans HI.out.2.2.2.2.2.2.2.2.2.2.2.2.2 k1.size
    obtain ⟨v2, w2, hr2, ho2, hg2, hv2⟩ := append_handle own1 (by have := HI.out.2.2.2.2.1; omega) hh hDs 229
    obtain ⟨A2, m2, c2, rfl⟩ := ho2.slice
    have hob : ∀ g, v.ownBlock = some g → w.heap.size + 2 ≤ g := fun g e => (own1.ge g e).1
    have bnr : ∀ k, k < w.heap.size + 2 → w2.heap[k]? = w1.heap[k]? := fun k hk => hg2.block k (by omega) fun e => by have := hob k e.symm; omega
    have b2 := (bnr (w.heap.size + 1) (by omega)).trans b1
    have c0 : w1.cell? ⟨w.heap.size + 1, 0, none⟩ = some v := by rw [cell_of_block b1]; rfl
    have d0 : w2.cell? ⟨w.heap.size + 1, 0, none⟩ = some v := by rw [cell_of_block b2]; rfl
    have f0 : w2.frozen? ⟨w.heap.size + 1, 0, none⟩ = false := frozen_of_block b2
    have hst2 := st1.grown hg2 (fun g e => ⟨Or.inr (Or.inr (Or.inr e)), by have := hob g e; have := HG.out.2.2.2; omega, by
     rcases own1.2 with ⟨e0, _⟩ | ⟨g', cap, cur, e0, _, hg, _⟩
     · rw [e0] at e; cases e
     · rw [e0] at e
       have e : g' = g := Option.some.inj e
       subst e
       exact ⟨_, _, hg⟩⟩)
    have hst3 : StOn (w2.setCell ⟨w.heap.size + 1, 0, none⟩ (.slice A2 m2 c2)) ps S2 (fun k => Y k ∨ SpY w.heap.size (w.heap.size + 1) (.slice A2 m2 c2) k) := by
     refine (hst2.write (b := w.heap.size + 1) (Or.inl (Or.inr (Or.inr (Or.inl rfl)))) b2 ⟨by decide, by decide⟩ (by simp) (by simp) fun k _ hk => heap_setCell_ne hk).mono fun k hk => ?_
     rcases hk with hk | rfl | rfl | hk
     · exact Or.inl (Or.inl hk)
     · exact Or.inl (Or.inr (Or.inl rfl))
     · exact Or.inl (Or.inr (Or.inr (Or.inl rfl)))
     · rcases hv2 with e | ⟨g, e, hg⟩
       · rw [e] at hk; exact Or.inl (Or.inr (Or.inr (Or.inr hk)))
       · rw [e] at hk
         have hk : g = k := Option.some.inj hk
         subst hk
         exact Or.inr ⟨hg, (ho2.ge g e).2⟩
    have hkp : Keep Y w (w2.setCell ⟨w.heap.size + 1, 0, none⟩ (.slice A2 m2 c2)) := (HI.out.2.1.trans (k1.mono fun k hk => Or.inl hk)).trans ⟨hg2.os, hg2.tape, hg2.output, by simpa using hg2.size, fun k hk => by
     have hk2 := HG.out.2.2.1 k hk
     rw [heap_setCell_ne (by omega)]
     exact bnr k (by omega)⟩
    have hsp2 : SpOn (w2.setCell ⟨w.heap.size + 1, 0, none⟩ (.slice A2 m2 c2)) w.heap.size (w.heap.size + 1) (w.heap.size + 2) ps t (.slice A2 m2 c2) (L ++ [hh]) :=
     ⟨heap_setCell b2, (heap_setCell_ne (by omega)).trans ((bnr w.heap.size (by omega)).trans tr1), ho2.at fun g e => heap_setCell_ne (by have := (ho2.ge g e).1; omega), by omega⟩
    have hnL : hh ∉ L := fun hm => by
     obtain ⟨ws, e, _⟩ := HI.out.2.2.2.2.2.1.recs hh hm
     rw [HI.out.2.2.2.2.2.2.2.2.2.1] at e
     cases e
    have hfin : ∃ S' o' v L, StOn (w2.setCell ⟨w.heap.size + 1, 0, none⟩ (.slice A2 m2 c2)) ps S' (fun k => Y k ∨ SpY w.heap.size (w.heap.size + 1) v k) ∧ Keep Y w (w2.setCell ⟨w.heap.size + 1, 0, none⟩ (.slice A2 m2 c2)) ∧ w.heap.size + 2 ≤ (w2.setCell ⟨w.heap.size + 1, 0, none⟩ (.slice A2 m2 c2)).heap.size ∧ SpOn (w2.setCell ⟨w.heap.size + 1, 0, none⟩ (.slice A2 m2 c2)) w.heap.size (w.heap.size + 1) (w.heap.size + 2) ps t v L ∧ Fit S' o' ∧ L.length = j + 1 ∧ Spare S' t L ∧ (∀ h ∈ L, reco S h = none) ∧ (∀ h, h ∉ L → reco S' h = reco S h) ∧ Grew S S' (2 * (j + 1)) (j + 1) := by
     refine ⟨S2, o1, .slice A2 m2 c2, L ++ [hh], hst3, hkp, by rw [size_setCell]; exact Nat.le_trans hDs hg2.size, hsp2, HI.out.2.2.2.1, by rw [List.length_append, HI.out.2.2.2.2.1]; rfl, ⟨?_, fun y hy => ?_⟩, fun y hy => ?_, fun y hy => ?_, (HI.out.2.2.2.2.2.2.2.2.1.trans HI.out.2.2.2.2.2.2.2.2.2.2.2.2.1).mono (by omega) (Nat.le_refl _)⟩
     · refine List.nodup_append.2 ⟨HI.out.2.2.2.2.2.1.nd, by simp, fun a ha b hb e => ?_⟩
       rw [List.mem_singleton.1 hb] at e
       exact hnL (e ▸ ha)
     · rcases List.mem_append.1 hy with hy | hy
       · obtain ⟨ws, e, hw⟩ := HI.out.2.2.2.2.2.1.recs y hy
         exact ⟨ws, (HI.out.2.2.2.2.2.2.2.2.2.2.2.1 y fun q => hnL (q ▸ hy)).trans e, hw⟩
       · rw [List.mem_singleton.1 hy]; exact HI.out.2.2.2.2.2.2.2.2.2.2.1
     · rcases List.mem_append.1 hy with hy | hy
       · exact HI.out.2.2.2.2.2.2.1 y hy
       · rw [List.mem_singleton.1 hy, ← HI.out.2.2.2.2.2.2.2.1 hh hnL]; exact HI.out.2.2.2.2.2.2.2.2.2.1
     · exact (HI.out.2.2.2.2.2.2.2.2.2.2.2.1 y fun q => hy (List.mem_append_right _ (q ▸ List.mem_cons_self ..))).trans (HI.out.2.2.2.2.2.2.2.1 y fun q => hy (List.mem_append_left _ q))
    have HF := Lib.hid hfin
    clear hfin hst2 hst3 hkp hsp2 hnL b1 b2 tr1 own1 ho2 hg2 hv2 hob bnr st1 k1 hDs x0 x1
    go_wp2_with (at_builtin; refine Lib.wpList_append_run _ rfl _ _ _ _ rfl _ _ rfl rfl _ _ hr2 ?_)
    go_roundw
    case rel => exact ⟨j + 1, by omega, by simp, HF.out⟩
    case measure => simp [intOf]; omega
  · obtain rfl : j = n := by omega
    have hlt2 : ¬ (j : Int) < j := by omega
    have HI := kq9 st kp sp hf hL spa hnew hfr hgr
    clear st kp sp hf spa hnew hfr hgr hL hsz
    go_wp2_with fail
    go_ret2
    exact ⟨rfl, S', o', v, HI.out.1, HI.out.2.1, L, HI.out.2.2⟩
