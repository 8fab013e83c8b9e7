import Derived.Test.YtcibkdbpicledaaGreatDoorWax
set_option maxRecDepth 100000
set_option maxHeartbeats 3200000
namespace Go.Proofs.YtcibkdbpicledaaGreatDoor
open Go.RowKit Go.BigFrame Go.Maps Go.WideMaps Lf Tr
open Go.Shelf
theorem HRow.keeps {w w' : World} {v : Value} {l : List Nat} (h : HRow w v l) (e : ∀ g, v.ownBlock = some g → g < w.heap.size → w'.heap[g]? = w.heap[g]?) : HRow w' v l := by
 obtain ⟨A, c, rfl, hc⟩ := h
 refine ⟨A, c, rfl, fun i hi => ?_⟩
 obtain ⟨g, o, rfl, h1⟩ := hc i hi
 exact ⟨g, o, rfl, (World.cell?_of_block (e g rfl (hcell_lt h1))).trans h1⟩
theorem OwnH.short {w : World} {D b c : Nat} {L : List Nat} {g : Nat} (h : OwnH w D (.slice (some ⟨b, 0, none⟩) (L.length + 1) c) (L ++ [g])) : OwnH w D (.slice (some ⟨b, 0, none⟩) L.length c) L := by
 refine ⟨by simp [hV], ?_⟩
 rcases h.2 with ⟨e, _⟩ | ⟨b', c', cur, e, hb, hg, hnc, hcm, hcs, ht⟩
 · cases e
 · injection e with e1 e2 e3
   injection e1 with e1
   injection e1 with e1
   subst e1 e3
   rw [List.length_append, List.length_singleton] at hnc ht
   refine Or.inr ⟨b, c, cur, rfl, hb, hg, by omega, hcm, hcs, ?_⟩
   rw [Nat.mul_one] at ht ⊢
   have h2 : (cur.toList.take (L.length + 1)).take L.length = (hV (L ++ [g])).take L.length := by rw [ht]
   rw [List.take_take, Nat.min_eq_left (by omega)] at h2
   rw [h2]
   unfold hV
   rw [List.map_append, List.take_left' (by simp)]
theorem bt_take {w : World} {ps : Nat} {S : St} {Z : Nat → Prop} {bt bl D t g : Nat} {v : Value} {L : List Nat} (h : StOn w ps S Z) (hi : Inv S) (sp : SpOn w bt bl D ps t v (L ++ [g])) (zb : Z bl) (zt : Z bt) (zv : ∀ b, v.ownBlock = some b → Z b) (hL : L.length ≤ 1000)
 {n : BN} {vk vv vc : Value} (hn : BnOk t n) (hk : HRow w vk n.keys) (hv : HRow w vv n.vals) (hc : HRow w vc n.kids) (nk : ∀ b, vk.ownBlock = some b → b ≠ bl) (nv : ∀ b, vv.ownBlock = some b → b ≠ bl) (nc : ∀ b, vc.ownBlock = some b → b ≠ bl)
 (hg : g < 18446744073709551616) (hlen : S.len g = (6 * t, 0)) (hlt : ∀ x ∈ bnWords t n, x < 18446744073709551616) :
 Calls Tryz.prog 331 #[bnV vk vv vc n.size, PV bl, PV bt] w fun e w' => e = .returned (.int .u64 g) ∧ ∃ v', StOn w' ps (putWords S g 0 (bnWords t n)) Z ∧ Keep (fun k => Z k ∧ k ≠ bl) w w' ∧ SpOn w' bt bl D ps t v' L ∧ v'.ownBlock = v.ownBlock := by
 have hY := h.yl
 obtain ⟨b, c, hvb⟩ : ∃ b c, v = .slice (some ⟨b, 0, none⟩) (L.length + 1) c := by
  rcases sp.row.2 with ⟨_, e⟩ | ⟨b, c, cur, e, _⟩
  · simp at e
  · exact ⟨b, c, by rw [e]; simp⟩
 subst hvb
 have hrow := sp.row
 have hbD := (hrow.ge b rfl).1
 have hsh := hrow.short
 have hNc : L.length ≤ c := by
  rcases hrow.2 with ⟨e, _⟩ | ⟨b', c', cur, e, hb, hg', hnc, hcm, hcs, ht⟩
  · cases e
  · injection e with e1 e2 e3
    subst e3
    rw [List.length_append, List.length_singleton] at hnc
    omega
 have hcg : w.cell? ⟨b, L.length, none⟩ = some (.int .u64 g) := by
  have := World.ownsRow.cells hrow (g := b) rfl L.length (.int .u64 g) (by simp [hV])
  rw [Addr.add_lit] at this
  simpa using this
 obtain ⟨Ak, ck, rfl, hk'⟩ := id hk
 obtain ⟨Av, cv, rfl, hv'⟩ := id hv
 obtain ⟨Ac, cc, rfl, hc'⟩ := id hc
 clear hk' hv' hc'
 have B0 := (Below.refl w.heap.size w).alloc (Nat.le_refl _) (.cells #[.slice Ak n.keys.length ck, .slice Av n.vals.length cv, .slice Ac n.kids.length cc, .int .u64 n.size] 286)
 have q0 := heap_alloc_new w (.cells #[.slice Ak n.keys.length ck, .slice Av n.vals.length cv, .slice Ac n.kids.length cc, .int .u64 n.size] 286)
 obtain ⟨W0, hW⟩ : ∃ W0, w.alloc (.cells #[.slice Ak n.keys.length ck, .slice Av n.vals.length cv, .slice Ac n.kids.length cc, .int .u64 n.size] 286) = W0 := ⟨_, rfl⟩
 rw [hW] at B0 q0
 have hst := h.wide B0
 have q1 := (B0.block bl (hY bl zb)).trans sp.box
 have q2 := (B0.block bt (hY bt zt)).trans sp.tree
 have c1 := (B0.cell (p := ⟨b, L.length, none⟩) (hcell_lt hcg)).trans hcg
 have hnew : w.heap.size < W0.heap.size := (gl q0)
 have hlo := sp.lo
 have hblw := hY bl zb
 have oth : ∀ k, k ≠ bl → (W0.setCell ⟨bl, 0, none⟩ (.slice (some ⟨b, 0, none⟩) L.length c)).heap[k]? = W0.heap[k]? := fun k hk => heap_setCell_ne hk
 have r1 := heap_setCell (i := 0) (v := .slice (some ⟨b, 0, none⟩) L.length c) q1
 have hst1 := hst.write (w' := W0.setCell ⟨bl, 0, none⟩ (.slice (some ⟨b, 0, none⟩) L.length c)) (b := bl) (Or.inl zb) q1 ⟨by decide, by decide⟩ (by simp) (by simp) fun k _ hk => oth k hk
 have rk := hk.keeps (w' := W0.setCell ⟨bl, 0, none⟩ (.slice (some ⟨b, 0, none⟩) L.length c)) fun x e hx => (oth x (nk x e)).trans (B0.block x hx)
 have rv := hv.keeps (w' := W0.setCell ⟨bl, 0, none⟩ (.slice (some ⟨b, 0, none⟩) L.length c)) fun x e hx => (oth x (nv x e)).trans (B0.block x hx)
 have rc := hc.keeps (w' := W0.setCell ⟨bl, 0, none⟩ (.slice (some ⟨b, 0, none⟩) L.length c)) fun x e hx => (oth x (nc x e)).trans (B0.block x hx)
 have hpu := bnode_put hst1 hi hn rk rv rc g hg hlen hlt
 have t1 := (oth bt (fun e => hlo.2.2 e.symm)).trans q2
 have t0 := (oth w.heap.size (by omega)).trans q0
 have kp0 : Keep (fun k => Z k ∧ k ≠ bl) w (W0.setCell ⟨bl, 0, none⟩ (.slice (some ⟨b, 0, none⟩) L.length c)) := (Keep.of_below B0 fun k hk => hY k hk.1).trans ⟨rfl, rfl, rfl, by simp, fun k hk => oth k hk.2⟩
 have own0 : OwnH (W0.setCell ⟨bl, 0, none⟩ (.slice (some ⟨b, 0, none⟩) L.length c)) D (.slice (some ⟨b, 0, none⟩) L.length c) L := hsh.at fun x e => (oth x (by have : b = x := Option.some.inj e; omega)).trans (B0.block x (by have : b = x := Option.some.inj e; subst this; exact hcell_lt hcg))
 have hzb := zv b rfl
 unfold bnV at hpu ⊢
 generalize n.keys.length = lk at *
 generalize n.vals.length = lv at *
 generalize n.kids.length = lc at *
 generalize n.size = sz at *
 have l0 : (W0).cell? ⟨bl, 0, none⟩ = some (.slice (some ⟨b, 0, none⟩) (L.length + 1) c) := by rw [cell_of_block q1]; rfl
 have f0 : (W0).frozen? ⟨bl, 0, none⟩ = false := frozen_of_block q1
 obtain ⟨N, hN⟩ : ∃ N, L.length = N := ⟨_, rfl⟩
 rw [hN] at hNc hL c1 l0 hpu r1 t1 t0 kp0 own0 rk rv rc hst1 oth
 obtain ⟨W1, hW1⟩ : ∃ W1, W0.setCell ⟨bl, 0, none⟩ (.slice (some ⟨b, 0, none⟩) N c) = W1 := ⟨_, rfl⟩
 rw [hW1] at hpu r1 t1 t0 kp0 own0
 obtain ⟨x0, x1⟩ := cells2 t1
 obtain ⟨y0, y1, y2, y3⟩ := cells4 t0
 have HP := Lib.hid hpu
 have HF := kq9 r1 t1 kp0 own0 zb zt hzb hlo hN
 have hN1 : ((N : Int) + 1 == 0) = false := by simp; omega
 have hN2 : ¬ ((N : Int) + 1 = 0) := by omega
 have hN3 : IntKind.i64.wrap ((N : Int) + 1 - 1) = N := by rw [Int.add_sub_cancel]; exact IntWalk.i64_in _ (by omega)
 have hN4 : (N : Int) < (N : Int) + 1 := by omega
 clear h hi sp zb zt zv hn hk hv hc nk nv nc hlen hlt hY hrow hbD hsh hcg B0 q0 hst q1 q2 hnew hlo hblw oth r1 hst1 rk rv rc hpu t1 t0 kp0 own0 hzb hN
 go_enter Tryz.func331, Tryz.ntmps331
 go_wp2_with fail
 refine HP.out.mono ?_
 rintro e w2 ⟨rfl, st2, k2⟩
 have HS := kq2 st2 k2
 clear st2 k2
 go_wp2_with fail
 go_ret
 obtain ⟨r1, t1, kp0, own0, zb, zt, hzb, hlo, hN⟩ := HF.out
 have k2 := HS.out.2
 refine ⟨rfl, .slice (some ⟨b, 0, none⟩) N c, HS.out.1.mono fun k hk => Or.inl hk, kp0.trans (k2.mono fun k hk => Or.inl hk.1), ⟨(k2.block bl (Or.inl zb)).trans r1, (k2.block bt (Or.inl zt)).trans t1, own0.at fun x e => k2.block x (by have : b = x := Option.some.inj e; subst this; exact Or.inl hzb), hlo⟩, rfl⟩
end Go.Proofs.YtcibkdbpicledaaGreatDoor
namespace Go.Proofs.YtcibkdbpicledaaGreatDoor
open Go.RowKit Go.BigFrame Go.Maps Go.WideMaps Lf Tr
theorem bt_need0 (w : World) (ps t : Nat) (key : List UInt8) :
 Calls Tryz.prog 323 #[trB ps t, .int .u64 0, SV key] w fun e w' => e = .returned (.int .i64 1) ∧ Below w.heap.size w w' := by
 have B0 := (Below.refl w.heap.size w).alloc (Nat.le_refl _) (.cells #[PV ps, .int .i64 t] 254)
 have HB := Lib.hid B0
 clear B0
 unfold trB
 go_enter Tryz.func323, Tryz.ntmps323
 go_wp2_with fail
 go_ret
 exact ⟨rfl, HB.out⟩
theorem bt_down0 {w : World} {ps : Nat} {S : St} {Y : Nat → Prop} (h : StOn w ps S Y) (hi : Inv S) {t : Nat} (t1 : 2 ≤ t) (t2 : t ≤ 16) (hh : Nat) (hl : hh < 18446744073709551616) (hlen : S.len hh = (0, 7)) (key : List UInt8) :
 Calls Tryz.prog 320 #[trB ps t, .int .u64 hh, SV key] w fun e w' => e = .returned (.tuple #[itO none, .bool (none : Option It).isSome, .int .i64 (0 : Nat)]) ∧ Below w.heap.size w w' := by
 have B0 := ((Below.refl w.heap.size w).alloc (Nat.le_refl _) (.cells #[PV ps, .int .i64 t] 254)).alloc (by simp) (.cells #[.int .u64 0, .int .u64 0] 137)
 have z1 : (w.alloc (.cells #[PV ps, .int .i64 t] 254)).heap.size = w.heap.size + 1 := by simp
 have q1 := heap_alloc_new w (.cells #[PV ps, .int .i64 t] 254)
 have q2 := heap_alloc_new (w.alloc (.cells #[PV ps, .int .i64 t] 254)) (.cells #[.int .u64 0, .int .u64 0] 137)
 have q3 := (((Below.refl (w.alloc (.cells #[PV ps, .int .i64 t] 254)).heap.size (w.alloc (.cells #[PV ps, .int .i64 t] 254))).alloc (Nat.le_refl _) (.cells #[.int .u64 0, .int .u64 0] 137)).block w.heap.size (by simp)).trans q1
 rw [z1] at q2
 have hz : w.heap.size + 2 ≤ ((w.alloc (.cells #[PV ps, .int .i64 t] 254)).alloc (.cells #[.int .u64 0, .int .u64 0] 137)).heap.size := by simp
 generalize hW : (w.alloc (.cells #[PV ps, .int .i64 t] 254)).alloc (.cells #[.int .u64 0, .int .u64 0] 137) = W0 at *
 have hget := bt_get0 (h.below B0) hi t1 t2 hh hl hlen
 unfold trB bnV at hget
 unfold trB
 have HG := kq2 (And.intro B0 (And.intro q2 (And.intro q3 hz))) hget
 clear hget h hi B0 q1 q2 q3 z1 hz hlen
 go_enter Tryz.func320, Tryz.ntmps320
 go_wp2_with fail
 clear hW
 go_loopw [1, 7, 8, 9, 10, 11, 12, 13, 14] (fun s1 s7 s8 _ _ _ _ _ s14 wr => s1 = .int .u64 hh ∧ s7 = .bool false ∧ s8 = .int .i64 0 ∧ s14 = .int .i64 0 ∧ wr = W0) (fun _ _ _ _ _ _ _ _ _ _ => 0)
 case atStart => exact ⟨rfl, rfl, rfl, rfl, rfl⟩
 case round =>
  obtain ⟨rfl, rfl, rfl, rfl, rfl⟩ := hrel
  have t3 := HG.out.1.2.2.1
  obtain ⟨x0, x1⟩ := cells2 t3
  clear t3
  go_wp2_with fail
  refine HG.out.2.mono ?_
  rintro e w1 ⟨rfl, hb⟩
  have A1 := (Below.refl w1.heap.size w1).alloc (Nat.le_refl _) (.cells #[.slice none 0 0, .slice none 0 0, .slice none 0 0, .int .u64 0] 286)
  have q6 := (hb.block (w.heap.size + 1) (by have := HG.out.1.2.2.2; omega)).trans HG.out.1.2.1
  have r6 := (A1.block (w.heap.size + 1) (gl q6)).trans q6
  have HB := kq2 (HG.out.1.1.trans ((hb.trans (A1.mono hb.size)).mono HG.out.1.1.size)) r6
  obtain ⟨z0, z1⟩ := cells2 r6
  obtain ⟨f0, f1⟩ := frees2 r6
  clear hb A1 q6 r6
  go_wp2_with fail
  generalize w1.alloc (.cells #[.slice none 0 0, .slice none 0 0, .slice none 0 0, .int .u64 0] 286) = WX at *
  have eW := st2_heap HB.out.2 (.int .u64 0) (.int .u64 0)
  have BF := st2_below HB.out.1 (b := w.heap.size + 1) (by omega) (.int .u64 0) (.int .u64 0)
  generalize ((WX.setCell ⟨w.heap.size + 1, 0, none⟩ (.int .u64 0)).setCell ⟨w.heap.size + 1, 1, none⟩ (.int .u64 0)) = WF at *
  obtain ⟨e0, e1⟩ := cells2 eW
  exact bodyPost_ret (v := .tuple #[.agg #[.int .u64 0, .int .u64 0], .bool false, .int .i64 0]) (by simp [results, Tryz.f320, go_sem, e0, e1]) rfl ⟨rfl, BF⟩
theorem btree_at_none {w : World} {ps : Nat} {S : St} {Y : Nat → Prop} (h : StOn w ps S Y) (hi : Inv S) {t hh z : Nat} (t1 : 2 ≤ t) (t2 : t ≤ 16) (hs : ∀ W, Below w.heap.size w W → Calls Tryz.prog 163 #[trB ps t, .int .u64 hh] W fun e w' => e = .returned (.int .i64 z) ∧ Below W.heap.size W w') {k : Int} (hk : k < 0 ∨ (z : Int) ≤ k) :
 Calls Tryz.prog 314 #[PV ps, .int .i64 t, .int .u64 hh, .int .i64 k] w fun e' w' => e' = .returned (.tuple #[itV 0 0, .int .i64 2]) ∧ Below w.heap.size w w' := by
 have B1 := (Below.refl w.heap.size w).alloc (Nat.le_refl _) (.cells #[.int .u64 0, .int .u64 0] 137)
 have B0 := B1.alloc (by simp) (.cells #[PV ps, .int .i64 t] 254)
 have z1 : (w.alloc (.cells #[.int .u64 0, .int .u64 0] 137)).heap.size = w.heap.size + 1 := by simp
 have q1 := heap_alloc_new w (.cells #[.int .u64 0, .int .u64 0] 137)
 have q3 := heap_alloc_new (w.alloc (.cells #[.int .u64 0, .int .u64 0] 137)) (.cells #[PV ps, .int .i64 t] 254)
 have q2 := (((Below.refl (w.alloc (.cells #[.int .u64 0, .int .u64 0] 137)).heap.size (w.alloc (.cells #[.int .u64 0, .int .u64 0] 137))).alloc (Nat.le_refl _) (.cells #[PV ps, .int .i64 t] 254)).block w.heap.size (by simp)).trans q1
 rw [z1] at q3
 have hz : w.heap.size + 2 ≤ ((w.alloc (.cells #[.int .u64 0, .int .u64 0] 137)).alloc (.cells #[PV ps, .int .i64 t] 254)).heap.size := by simp
 have has := bt_asked (h.below B1) hi t1 t2
 generalize hWa : w.alloc (.cells #[.int .u64 0, .int .u64 0] 137) = Wa at *
 generalize hW : Wa.alloc (.cells #[PV ps, .int .i64 t] 254) = W0 at *
 have hza : Wa.heap.size = w.heap.size + 1 := z1
 have hs0 := hs W0 B0
 obtain ⟨x0, x1⟩ := cells2 q3
 obtain ⟨c0, c1⟩ := cells2 q2
 obtain ⟨f0, f1⟩ := frees2 q2
 have HG := kq2 (And.intro B0 (And.intro q2 (And.intro q3 hz))) has
 unfold trB at hs0
 have H0 := Lib.hid hs0
 clear h hi hs B0 B1 q1 q2 q3 z1 hz has hs0
 rcases hk with hk | hk
 · go_enter Tryz.func314, Tryz.ntmps314
   go_wp2_with fail
   refine HG.out.2.mono ?_
   rintro e w1 ⟨rfl, rfl⟩
   go_wp2_with fail
   have eW := st2_heap HG.out.1.2.1 (.int .u64 0) (.int .u64 0)
   have BF := st2_below HG.out.1.1 (b := w.heap.size) (by omega) (.int .u64 0) (.int .u64 0)
   generalize ((W0.setCell ⟨w.heap.size, 0, none⟩ (.int .u64 0)).setCell ⟨w.heap.size, 1, none⟩ (.int .u64 0)) = WF at *
   obtain ⟨e0, e1⟩ := cells2 eW
   exact bodyPost_ret (v := .tuple #[.agg #[.int .u64 0, .int .u64 0], .int .i64 2]) (by simp [results, Tryz.f314, go_sem, e0, e1]) rfl ⟨rfl, BF⟩
 · have hk0 : ¬ k < 0 := by omega
   clear c0 c1 f0
   go_enter Tryz.func314, Tryz.ntmps314
   go_wp2_with fail
   refine HG.out.2.mono ?_
   rintro e w1 ⟨rfl, rfl⟩
   go_wp2_with fail
   refine H0.out.mono ?_
   rintro e w2 ⟨rfl, hb1⟩
   have r2 := (hb1.block w.heap.size (by have := HG.out.1.2.2.2; omega)).trans HG.out.1.2.1
   obtain ⟨c0, c1⟩ := cells2 r2
   obtain ⟨f0, f1⟩ := frees2 r2
   have HB1 := kq2 (HG.out.1.1.trans (hb1.mono HG.out.1.1.size)) r2
   clear hb1 x0 x1 r2
   go_wp2_with fail
   have eW := st2_heap HB1.out.2 (.int .u64 0) (.int .u64 0)
   have BF := st2_below HB1.out.1 (b := w.heap.size) (by omega) (.int .u64 0) (.int .u64 0)
   generalize ((w2.setCell ⟨w.heap.size, 0, none⟩ (.int .u64 0)).setCell ⟨w.heap.size, 1, none⟩ (.int .u64 0)) = WF at *
   obtain ⟨e0, e1⟩ := cells2 eW
   exact bodyPost_ret (v := .tuple #[.agg #[.int .u64 0, .int .u64 0], .int .i64 2]) (by simp [results, Tryz.f314, go_sem, e0, e1]) rfl ⟨rfl, BF⟩
end Go.Proofs.YtcibkdbpicledaaGreatDoor
namespace Go.Proofs.YtcibkdbpicledaaGreatDoor
open Go.RowKit Go.BigFrame Go.Maps Go.WideMaps Lf Tr
open Go.Shelf
theorem SpOn.keeps {w w' : World} {bt bl D ps t : Nat} {v : Value} {L : List Nat} (h : SpOn w bt bl D ps t v L) (e : ∀ k, SpY bt bl v k → w'.heap[k]? = w.heap[k]?) : SpOn w' bt bl D ps t v L :=
 ⟨(e bl (Or.inr (Or.inl rfl))).trans h.box, (e bt (Or.inl rfl)).trans h.tree, h.row.at fun g hg => e g (Or.inr (Or.inr hg)), h.lo⟩
section
variable {w wc wc' : World} {ps : Nat} {Z : Nat → Prop} {bt bl D t : Nat} {v : Value} {bN : Nat} {S' S2 : St} {Y Y' : Nat → Prop} {v' v2 : Value} {L' L2 : List Nat} {vk vv vc uk uv uc : Value} {sz sz' : Nat} {ks vs cs ks' vs' cs' : List Nat}
end
section
variable {w wc wc' : World} {ps : Nat} {Z : Nat → Prop} {bt bl D t : Nat} {v : Value} {bN : Nat} {S' S2 : St} {Y Y' : Nat → Prop} {v' v2 : Value} {L' L2 : List Nat} {vk vv vc uk uv uc : Value} {sz sz' : Nat} {ks vs cs ks' vs' cs' : List Nat}
end
namespace Bt
end Bt
section
variable {w wc : World} {ps : Nat} {Z : Nat → Prop} {bt bl D t : Nat} {v : Value} {bN : Nat} {S S' : St} {o : Nat → Nat} {Y : Nat → Prop} {v' : Value} {L L' U : List Nat} {vk vv vc : Value} {sz k : Nat} {e : It}
end
section
variable {w wc wc' : World} {ps : Nat} {Z : Nat → Prop} {bt bl D t : Nat} {v : Value} {bN : Nat} {S S' S2 : St} {o : Nat → Nat} {Y Y' : Nat → Prop} {v' v2 : Value} {L L' L2 : List Nat} {vk vv vc uk uv uc : Value} {sz sz' k : Nat} {ks vs cs ks' vs' cs' : List Nat} {e : It}
end
section
variable {w wc wc' : World} {ps : Nat} {Z : Nat → Prop} {bt bl D t : Nat} {v : Value} {bN : Nat} {S S4 : St} {o : Nat → Nat} {Y : Nat → Prop} {v4 : Value} {L L4 U : List Nat} {vk vv vc : Value} {sz : Nat} {ks vs cs : List Nat} {e : It} {d : Nat} {y : Bt (d + 1)} {r : Option (It × Nat)} {Y1 : Nat → Prop} {w0 : World}
end
theorem Bt.bnok_of {S : St} {o : Nat → Nat} (hf : Fit S o) {t : Nat} (t1 : 2 ≤ t) (t2 : t ≤ 16) {d : Nat} {x : Bt (d + 1)} (hk : ∀ k ∈ Bn.ks x, Bt.At S t k) (ok : Bt.Ok t x) : BnOk t (Bt.bn x) := by
 refine ⟨t1, t2, by unfold Bt.bn; rw [List.length_map]; exact ok.1, by unfold Bt.bn; rw [List.length_map, List.length_map], ?_⟩
 have hq := ok.2.1
 unfold Bt.bn
 simp only [List.length_map]
 by_cases hd0 : d = 0
 · rw [if_pos hd0] at hq; exact Or.inl hq
 · rw [if_neg hd0] at hq
   refine Or.inr ⟨hq, ?_⟩
   rw [Bool.eq_false_iff]
   intro hc
   obtain ⟨k, hkm, e⟩ := List.mem_map.1 (List.contains_iff_mem.1 hc)
   exact (Bt.At.hd_ok hf (hk k hkm)).1 e
section
variable {w wc wc' : World} {ps : Nat} {Z : Nat → Prop} {bt bl D t : Nat} {v : Value} {bN : Nat} {S S4 S2 : St} {o : Nat → Nat} {Y : Nat → Prop} {v4 v2 : Value} {L L4 L2 U : List Nat} {vk vv vc : Value} {sz : Nat} {ks vs cs : List Nat} {e : It} {d : Nat}
end
section
variable {wc wd wd' : World} {ps : Nat} {S' S2 : St} {Y : Nat → Prop} {bL bR : Nat} {l r : Array Value}
end
section
variable {wc wd : World} {ps : Nat} {S' : St} {Y : Nat → Prop} {bL bR : Nat} {a b c z a' b' c' z' : Value}
end
section
variable {w wc : World} {ps : Nat} {Z : Nat → Prop} {bt bl D t : Nat} {v : Value} {bN : Nat} {S S' : St} {o : Nat → Nat} {Y : Nat → Prop} {v' : Value} {L L' U : List Nat} {vk vv vc : Value} {e : It} {d : Nat} {x x' : Bt (d + 1)}
end
section
variable {w wc : World} {ps : Nat} {Z : Nat → Prop} {bt bl D t : Nat} {v : Value} {bN : Nat} {S S' : St} {o : Nat → Nat} {Y : Nat → Prop} {v' : Value} {L L' U : List Nat} {vk vv vc : Value} {e : It} {d : Nat} {x x' : Bt (d + 1)}
end
end Go.Proofs.YtcibkdbpicledaaGreatDoor
namespace Go.Proofs.YtcibkdbpicledaaGreatDoor
open Lf
namespace Tr
def putL (l : List (List UInt8 × List UInt8)) (a b : List UInt8) : List (List UInt8 × List UInt8) :=
 l.filter (fun p => decide (cmpB p.1 a < 0)) ++ (a, b) :: l.filter (fun p => decide (0 < cmpB p.1 a))
theorem filters {a : List UInt8} {L M : List (List UInt8 × List UInt8)} (x : List (List UInt8 × List UInt8)) (hx : ∀ p ∈ x, p.1 = a) (hL : ∀ p ∈ L, cmpB p.1 a < 0) (hM : ∀ p ∈ M, cmpB a p.1 < 0) :
 (L ++ x ++ M).filter (fun p => decide (cmpB p.1 a < 0)) = L ∧ (L ++ x ++ M).filter (fun p => decide (0 < cmpB p.1 a)) = M := by
 have h1 : L.filter (fun p => decide (cmpB p.1 a < 0)) = L := List.filter_eq_self.2 fun p hp => by simpa using hL p hp
 have h2 : M.filter (fun p => decide (0 < cmpB p.1 a)) = M := List.filter_eq_self.2 fun p hp => by have := hM p hp; rw [cmpB_swap] at this; simp; omega
 have h3 : L.filter (fun p => decide (0 < cmpB p.1 a)) = [] := List.filter_eq_nil_iff.2 fun p hp => by have := hL p hp; simp; omega
 have h4 : M.filter (fun p => decide (cmpB p.1 a < 0)) = [] := List.filter_eq_nil_iff.2 fun p hp => by have := hM p hp; rw [cmpB_swap] at this; simp; omega
 have h5 : x.filter (fun p => decide (cmpB p.1 a < 0)) = [] := List.filter_eq_nil_iff.2 fun p hp => by rw [hx p hp, cmpB_refl]; simp
 have h6 : x.filter (fun p => decide (0 < cmpB p.1 a)) = [] := List.filter_eq_nil_iff.2 fun p hp => by rw [hx p hp, cmpB_refl]; simp
 constructor
 · rw [List.filter_append, List.filter_append, h1, h4, h5]; simp
 · rw [List.filter_append, List.filter_append, h2, h3, h6]; simp
theorem pairs_append (a b : List It) : pairs (a ++ b) = pairs a ++ pairs b := by unfold pairs; simp
theorem putL_pairs {a b : List UInt8} {tl tr mid : List It} {d : It} (hd : d.k = a ∧ d.v = b) (hm : ∀ x ∈ mid, x.k = a) (h1 : ∀ x ∈ tl, cmpB x.k a < 0) (h2 : ∀ x ∈ tr, cmpB a x.k < 0) :
 pairs (tl ++ d :: tr) = putL (pairs (tl ++ mid ++ tr)) a b := by
 obtain ⟨f1, f2⟩ := filters (a := a) (L := pairs tl) (M := pairs tr) (pairs mid) (fun p hp => by obtain ⟨x, hx, rfl⟩ := List.mem_map.1 hp; exact hm x hx) (fun p hp => by obtain ⟨x, hx, rfl⟩ := List.mem_map.1 hp; exact h1 x hx) (fun p hp => by obtain ⟨x, hx, rfl⟩ := List.mem_map.1 hp; exact h2 x hx)
 unfold putL
 rw [pairs_append, pairs_append, pairs_append, f1, f2]
 show pairs tl ++ (d.k, d.v) :: pairs tr = _
 rw [hd.1, hd.2]
theorem Blobs.frame {S S' : St} {d : It} (h : Blobs S d) (h1 : reco S' d.kh = reco S d.kh) (h2 : reco S' d.vh = reco S d.vh) : Blobs S' d := ⟨h1.trans h.k, h2.trans h.v, h.lk, h.lv⟩
theorem Bin.some {Ok : Tr → Prop} {S : St} {o : Nat → Nat} {t : Tr} (h : Bin Ok S o t) : ∀ y ∈ allH t.its, reco S y ≠ none := by
 intro y hy
 obtain ⟨d, hd, e⟩ := mem_allH.1 hy
 have hb := h.blobs d hd
 rcases e with rfl | rfl | rfl
 · obtain ⟨n, hn⟩ := h.at'.rec d.h (List.mem_map.2 ⟨d, hd, rfl⟩)
   rw [hn]; simp
 · rw [hb.k]; simp
 · rw [hb.v]; simp
theorem Bin.frame {Ok : Tr → Prop} {S S' : St} {o o' : Nat → Nat} {t : Tr} (h : Bin Ok S o t) (hf : Fit S' o') (hs : ∀ y ∈ allH t.its, reco S' y = reco S y) : Bin Ok S' o' t where
 fit := hf
 at' := h.at'.frame fun y hy => by
  obtain ⟨d, hd, rfl⟩ := List.mem_map.1 hy
  exact hs _ (mem_allH.2 ⟨d, hd, Or.inl rfl⟩)
 ok := h.ok
 nd := h.nd
 blobs d hd := (h.blobs d hd).frame (hs _ (mem_allH.2 ⟨d, hd, Or.inr (Or.inl rfl)⟩)) (hs _ (mem_allH.2 ⟨d, hd, Or.inr (Or.inr rfl)⟩))
 sorted := h.sorted
theorem three_fit {S : St} {o : Nat → Nat} (hf : Fit S o) {a b : List UInt8} (ha : a.length ≤ 1000) (hb : b.length ≤ 1000) (hr : Space S 7 3) :
 ∃ ka vb hn S2 S3 o3, itemsM S a b = some ((ka, vb), S2) ∧ makeNode S2 ⟨ka, vb, 0, 0, 0, 1⟩ = ((hn, 0), S3) ∧ PutOk S a b ∧ Fit S3 o3 ∧ reco S ka = none ∧ reco S vb = none ∧ reco S hn = none ∧ ka ≠ vb ∧ ka ≠ hn ∧ vb ≠ hn ∧
  reco S3 ka = some (wordsOf a) ∧ reco S3 vb = some (wordsOf b) ∧ reco S3 hn = some (ndWords ⟨ka, vb, 0, 0, 0, 1⟩) ∧ (∀ h', h' ≠ ka → h' ≠ vb → h' ≠ hn → reco S3 h' = reco S h') ∧ Grew S S3 7 3 := by
 obtain ⟨ka, S1, o1, e1, f1, n1, l1, q1, g1, k1⟩ := putBlob_fit hf ha (hr.mono (by omega) (by omega))
 obtain ⟨vb, S2, o2, e2, f2, n2, l2, q2, g2, k2⟩ := putBlob_fit f1 hb (Space.grew (hr.mono (p' := 3 + 3) (q' := 1 + 1) (by omega) (by omega)) g1)
 have hne : ka ≠ vb := by rintro rfl; rw [l1] at n2; cases n2
 have r2 : Space S2 1 1 := Space.grew (hr.mono (p' := (3 + 3) + 1) (q' := (1 + 1) + 1) (by omega) (by omega)) (g1.trans g2)
 have hka := (look_ok f1 l1).2.1
 have hvb := (look_ok f2 l2).2.1
 have hnd : NdLt ⟨ka, vb, 0, 0, 0, 1⟩ := ⟨hka, hvb, by simp, by simp, by simp, by simp⟩
 obtain ⟨hn, S3, o3, e3, f3, n3, l3, q3, g3, k3⟩ := makeNode_fit f2 hnd r2
 have hkn : ka ≠ hn := by rintro rfl; rw [q2 _ hne, l1] at n3; cases n3
 have hvn : vb ≠ hn := by rintro rfl; rw [l2] at n3; cases n3
 have hit : itemsM S a b = some ((ka, vb), S2) := by
  unfold itemsM
  rw [e1]
  simp only
  rw [e2]
  simp
 refine ⟨ka, vb, hn, S2, S3, o3, hit, e3, ⟨⟨ha, hb, k1, by rw [e1]; exact k2⟩, fun p S4 h4 => ?_⟩, f3, n1, (q1 _ hne.symm).symm.trans n2, ((q1 _ hkn.symm).symm.trans (q2 _ hvn.symm).symm).trans n3, hne, hkn, hvn, (q3 _ hkn).trans ((q2 _ hne).trans l1), (q3 _ hvn).trans l2, l3, fun h' w1 w2 w3 => (q3 h' w3).trans ((q2 h' w2).trans (q1 h' w1)), ((g1.trans g2).trans g3).mono (by omega) (by omega)⟩
 rw [hit] at h4
 injection h4 with h4
 injection h4 with _ e
 rw [← e]; exact k3
theorem bin_made {Ok : Tr → Prop} {S S3 S5 : St} {o o5 : Nat → Nat} {t u tl tr : Tr} {mid : List It} {d : It} (h : Bin Ok S o t) (hi : t.its = tl.its ++ mid ++ tr.its) (iu : u.its = tl.its ++ d :: tr.its)
 (hd : ∀ y, y = d.h ∨ y = d.kh ∨ y = d.vh → reco S y = none) (hdn : d.kh ≠ d.vh ∧ d.kh ≠ d.h ∧ d.vh ≠ d.h) (f5 : Fit S5 o5) (au : At S5 u) (ou : Ok u)
 (h3 : ∀ y ∈ allH t.its, reco S3 y = reco S y) (hb3 : Blobs S3 d) (h5 : ∀ y, y ∉ t.hs → y ≠ d.h → reco S5 y = reco S3 y)
 (h1 : ∀ x ∈ tl.its, cmpB x.k d.k < 0) (h2 : ∀ x ∈ tr.its, cmpB d.k x.k < 0) : Bin Ok S5 o5 u := by
 have hsub : ∀ x, x ∈ tl.its ∨ x ∈ tr.its → x ∈ t.its := fun x hx => by
  rw [hi]
  rcases hx with hx | hx <;> simp [hx]
 have hnew : ∀ y ∈ allH t.its, y ≠ d.h ∧ y ≠ d.kh ∧ y ≠ d.vh := fun y hy => by
  have := h.some y hy
  refine ⟨?_, ?_, ?_⟩ <;> rintro rfl
  · exact this (hd _ (Or.inl rfl))
  · exact this (hd _ (Or.inr (Or.inl rfl)))
  · exact this (hd _ (Or.inr (Or.inr rfl)))
 have hnd := h.nd
 have e : allH t.its = allH tl.its ++ (allH mid ++ allH tr.its) := by rw [hi, allH_append, allH_append, List.append_assoc]
 rw [e] at hnd hnew
 obtain ⟨n1, n2, n3⟩ := List.nodup_append.1 hnd
 obtain ⟨n4, n5, n6⟩ := List.nodup_append.1 n2
 refine ⟨f5, au, ou, ?_, ?_, ?_⟩
 · rw [iu, allH_append, allH_cons]
   refine List.nodup_append.2 ⟨n1, ?_, fun y hy z hz q => ?_⟩
   · refine List.nodup_cons.2 ⟨?_, List.nodup_cons.2 ⟨?_, List.nodup_cons.2 ⟨?_, n5⟩⟩⟩
     · simp only [List.mem_cons, not_or]
       exact ⟨fun q => hdn.2.1 q.symm, fun q => hdn.2.2 q.symm, fun hm => (hnew d.h (by simp [hm])).1 rfl⟩
     · simp only [List.mem_cons, not_or]
       exact ⟨hdn.1, fun hm => (hnew d.kh (by simp [hm])).2.1 rfl⟩
     · exact fun hm => (hnew d.vh (by simp [hm])).2.2 rfl
   · subst q
     have hw := hnew y (by simp [hy])
     simp only [List.mem_cons] at hz
     rcases hz with hz | hz | hz | hz
     · exact hw.1 hz
     · exact hw.2.1 hz
     · exact hw.2.2 hz
     · exact n3 y hy y (by simp [hz]) rfl
 · intro x hx
   rw [iu] at hx
   have hold : x ∈ t.its → Blobs S5 x := fun hm => by
    have hs := (h.hs).2 x hm
    have hk : x.kh ∈ allH t.its := mem_allH.2 ⟨x, hm, Or.inr (Or.inl rfl)⟩
    have hv : x.vh ∈ allH t.its := mem_allH.2 ⟨x, hm, Or.inr (Or.inr rfl)⟩
    refine (h.blobs x hm).frame ((h5 _ hs.1 ?_).trans (h3 _ hk)) ((h5 _ hs.2 ?_).trans (h3 _ hv))
    · exact (hnew _ (by rw [← e]; exact hk)).1
    · exact (hnew _ (by rw [← e]; exact hv)).1
   rcases List.mem_append.1 hx with hx | hx
   · exact hold (hsub x (Or.inl hx))
   · rcases List.mem_cons.1 hx with rfl | hx
     · have hno : ∀ y, y = x.h ∨ y = x.kh ∨ y = x.vh → y ∉ t.hs := fun y hy hm => by
        obtain ⟨z, hz, rfl⟩ := List.mem_map.1 hm
        exact h.some _ (mem_allH.2 ⟨z, hz, Or.inl rfl⟩) (hd _ hy)
       exact hb3.frame (h5 _ (hno _ (Or.inr (Or.inl rfl))) hdn.2.1) (h5 _ (hno _ (Or.inr (Or.inr rfl))) hdn.2.2)
     · exact hold (hsub x (Or.inr hx))
 · have hso := h.sorted
   rw [hi] at hso
   obtain ⟨s1, s2, s3⟩ := List.pairwise_append.1 hso
   obtain ⟨s4, s5, s6⟩ := List.pairwise_append.1 s1
   rw [iu]
   refine List.pairwise_append.2 ⟨s4, List.pairwise_cons.2 ⟨fun y hy => h2 y hy, s2⟩, fun x hx y hy => ?_⟩
   rcases List.mem_cons.1 hy with rfl | hy
   · exact h1 x hx
   · exact s3 x (by simp [hx]) y hy
theorem insert_fit {jn : Jn} {Ok : Tr → Prop} (J : JSpec jn Ok) {S S3 : St} {o o3 : Nat → Nat} {t : Tr} {d : It} (h : Bin Ok S o t) (hc : t.its.length < 98) (f3 : Fit S3 o3) (ha : d.k.length ≤ 1000) (hv : d.v.length ≤ 1000)
 (hd : ∀ y, y = d.h ∨ y = d.kh ∨ y = d.vh → reco S y = none) (hdn : d.kh ≠ d.vh ∧ d.kh ≠ d.h ∧ d.vh ≠ d.h) (hk : reco S3 d.kh = some (wordsOf d.k)) (hvv : reco S3 d.vh = some (wordsOf d.v)) {n0 : Nd} (hn : reco S3 d.h = some (ndWords n0)) (hn1 : n0.key = d.kh) (hn2 : n0.val = d.vh)
 (h3 : ∀ y ∈ allH t.its, reco S3 y = reco S y) :
 ∃ u old S5 tl tr mid, insertOkM jn S3 t.root d.h = some ((u.root, old), S5) ∧ Bin Ok S5 o3 u ∧ t.its = tl ++ mid ++ tr ∧ u.its = tl ++ d :: tr ∧ (∀ x ∈ tl, cmpB x.k d.k < 0) ∧ (∀ x ∈ tr, cmpB d.k x.k < 0) ∧ Grew S3 S5 0 0 ∧
  (∀ y, y ∉ t.hs → y ≠ d.h → reco S5 y = reco S3 y) ∧ ((old = 0 ∧ mid = []) ∨ ∃ (x : It) (n1 : Nd), mid = [x] ∧ old = x.h ∧ x.k = d.k ∧ reco S5 x.h = some (ndWords n1) ∧ n1.key = x.kh ∧ n1.val = x.vh) := by
 have h' := h.frame f3 h3
 have hhs := h.hs
 have hdh : d.h ∉ t.hs := fun hm => by
  obtain ⟨z, hz, e⟩ := List.mem_map.1 hm
  exact h.some _ (mem_allH.2 ⟨z, hz, Or.inl e.symm⟩) (hd _ (Or.inl rfl))
 have hgb := getBlob_look f3 ha hk
 have hgn := getNode_look f3 hn
 have hd0 := (look_ok f3 hn).1
 obtain ⟨tl, m, tr, S4, e4, f4, al, ar, okl, okr, o4, g4, hm, hlt, hgt⟩ := split_fit J d.k 200 f3 h'.at' h'.ok hhs.1 (fun x hx => ⟨h'.blobs x hx, (hhs.2 x hx).1⟩) h'.sorted (by omega) (by omega)
 have hn4 : reco S4 d.h = some (ndWords n0) := (o4 _ hdh).trans hn
 obtain ⟨mid, hmid, hcase⟩ : ∃ mid : List It, t.its = tl.its ++ mid ++ tr.its ∧ ((m = 0 ∧ mid = []) ∨ ∃ (x : It) (n1 : Nd), mid = [x] ∧ m = x.h ∧ x.k = d.k ∧ reco S4 x.h = some (ndWords n1) ∧ n1.key = x.kh ∧ n1.val = x.vh) := by
  rcases hm with ⟨e0, e⟩ | ⟨x, n1, e0, ek, e, q1, q2, q3⟩
  · exact ⟨[], by rw [e]; simp, Or.inl ⟨e0, rfl⟩⟩
  · exact ⟨[x], by rw [e]; simp, Or.inr ⟨x, n1, rfl, e0, ek, q1, q2, q3⟩⟩
 have hths : t.hs = tl.hs ++ (mid.map (·.h)) ++ tr.hs := by unfold Tr.hs; rw [hmid]; simp
 have hnd := hhs.1
 rw [hths] at hnd hdh
 obtain ⟨n1, n2, n3⟩ := List.nodup_append.1 hnd
 obtain ⟨n4, n5, n6⟩ := List.nodup_append.1 n1
 simp only [List.mem_append, not_or] at hdh
 have hnj : (tl.hs ++ d.h :: tr.hs).Nodup := List.nodup_append.2 ⟨n4, List.nodup_cons.2 ⟨hdh.2, n2⟩, fun x hx y hy q => by
  subst q
  rcases List.mem_cons.1 hy with q | q
  · exact hdh.1.1 (q ▸ hx)
  · exact n3 x (by simp [hx]) x q rfl⟩
 have hlen : tl.its.length + tr.its.length < 99 := by rw [hmid] at hc; simp at hc; omega
 obtain ⟨u, S5, e5, D5, oku, iu⟩ := J.join f4 al ar okl okr hn4 hn1 hn2 hnj hlen
 have hfr : ∀ y, y ∉ t.hs → y ≠ d.h → reco S5 y = reco S3 y := fun y hy hy2 => by
  refine (D5.other y fun hm => ?_).trans (o4 y hy)
  rw [hths] at hy
  simp only [List.mem_append, not_or] at hy
  rcases List.mem_append.1 hm with hm | hm
  · exact hy.1.1 hm
  · rcases List.mem_cons.1 hm with hm | hm
    · exact hy2 hm
    · exact hy.2 hm
 refine ⟨u, m, S5, tl.its, tr.its, mid, ?_, ?_, hmid, iu, hlt, hgt, g4.trans D5.grew, hfr, ?_⟩
 · unfold insertOkM
   rw [hgn]
   simp only
   rw [hn1, hgb]
   rw [if_neg (by
    have : isT S3 d.h = true := by unfold isT; rw [hgn]; simp
    rw [h'.at'.isT f3, this]
    simp; omega)]
   simp only
   rw [e4]
   simp only
   unfold cjoinM
   rw [e5]
   rfl
 · exact bin_made h hmid iu hd hdn D5.fit D5.at' oku h3 ⟨hk, hvv, ha, hv⟩ hfr hlt hgt
 · rcases hcase with ⟨e0, e⟩ | ⟨x, n1', ex, e0, ek, q1, q2, q3⟩
   · exact Or.inl ⟨e0, e⟩
   · refine Or.inr ⟨x, n1', ex, e0, ek, (D5.other _ fun hm => ?_).trans q1, q2, q3⟩
     rw [ex] at n6 n3 hdh
     simp only [List.map_cons, List.map_nil] at n6 n3 hdh
     rcases List.mem_append.1 hm with hm | hm
     · exact n6 x.h hm x.h (by simp) rfl
     · rcases List.mem_cons.1 hm with hm | hm
       · exact hdh.1.2 (by simp [hm])
       · exact n3 x.h (by simp) x.h hm rfl
def Apart (S S' : St) (l : List It) : Prop := ∀ y, y ∉ allH l → reco S y ≠ none → reco S' y = reco S y
theorem put_new {jn : Jn} {Ok : Tr → Prop} (J : JSpec jn Ok) {S : St} {o : Nat → Nat} {t : Tr} (h : Bin Ok S o t) (hc : t.its.length < 98) {a b : List UInt8} (ha : a.length ≤ 1000) (hb : b.length ≤ 1000) (hr : Space S 7 3) (hno : ∀ d ∈ t.its, d.k ≠ a) :
 ∃ u S' o', PutOk S a b ∧ treePutM jn S t.root a b = some (u.root, S') ∧ Bin Ok S' o' u ∧ pairs u.its = putL (pairs t.its) a b ∧ u.its.length = t.its.length + 1 ∧ Grew S S' 7 3 ∧ Apart S S' t.its ∧ ∀ y ∈ allH u.its, y ∈ allH t.its ∨ reco S y = none := by
 obtain ⟨ka, vb, hn, S2, S3, o3, hit, hmk, hpo, f3, r1, r2, r3, d1, d2, d3, l1, l2, l3, q3, g3⟩ := three_fit h.fit ha hb hr
 have hfr : ∀ y, reco S y ≠ none → reco S3 y = reco S y := fun y hy => q3 y (by rintro rfl; exact hy r1) (by rintro rfl; exact hy r2) (by rintro rfl; exact hy r3)
 obtain ⟨u, old, S5, tl, tr, mid, e5, B5, hmid, iu, hlt, hgt, g5, hfr5, hcase⟩ := insert_fit J (d := ⟨hn, ka, vb, a, b⟩) h hc f3 ha hb (by rintro y (rfl | rfl | rfl) <;> assumption) ⟨d1, d2, d3⟩ l1 l2 l3 rfl rfl (fun y hy => hfr y (h.some y hy))
 have hm0 : old = 0 ∧ mid = [] := by
  rcases hcase with q | ⟨x, n1, ex, _, ek, _⟩
  · exact q
  · exact absurd ek (hno x (by rw [hmid, ex]; simp))
 refine ⟨u, S5, o3, hpo, ?_, B5, ?_, ?_, (g3.trans g5).mono (by omega) (by omega), fun y hy hs => (hfr5 y (fun hm => ?_) ?_).trans (hfr y hs), fun y hy => ?_⟩
 · unfold treePutM
   rw [hit]
   simp only
   unfold binInsM
   rw [hmk]
   simp only
   rw [if_neg (by simp), e5]
   simp only
   rw [if_pos hm0.1]
 · rw [iu, hmid]
   exact putL_pairs ⟨rfl, rfl⟩ (fun x hx => by rw [hm0.2] at hx; cases hx) hlt hgt
 · rw [iu, hmid, hm0.2]; simp; omega
 · obtain ⟨z, hz, rfl⟩ := List.mem_map.1 hm
   exact hy (mem_allH.2 ⟨z, hz, Or.inl rfl⟩)
 · rintro rfl; exact hs r3
 · rw [iu, allH_append, allH_cons] at hy
   rw [hmid, allH_append, allH_append]
   simp only [List.mem_append, List.mem_cons] at hy ⊢
   rcases hy with q | rfl | rfl | rfl | q
   · exact Or.inl (Or.inl (Or.inl q))
   · exact Or.inr r3
   · exact Or.inr r1
   · exact Or.inr r2
   · exact Or.inl (Or.inr q)
theorem put_was {jn : Jn} {Ok : Tr → Prop} (J : JSpec jn Ok) {S : St} {o : Nat → Nat} {t : Tr} (h : Bin Ok S o t) (hc : t.its.length < 98) {a b : List UInt8} (ha : a.length ≤ 1000) (hb : b.length ≤ 1000) (hr : Space S 7 3) {x : It} (hx : x ∈ t.its) (hxk : x.k = a) :
 ∃ u S6 S8 o', PutOk S a b ∧ treeRepM jn S t.root a b = some ((u.root, x.kh, x.vh), S6) ∧ Fit S6 o' ∧ getBlob S6 x.vh = (x.v, 0) ∧ Inv (S6.drop x.kh).2 ∧ S8 = ((S6.drop x.kh).2.drop x.vh).2 ∧ Bin Ok S8 o' u ∧ pairs u.its = putL (pairs t.its) a b ∧ u.its.length = t.its.length ∧ Grew S S8 7 3 ∧ Apart S S8 t.its ∧ ∀ y ∈ allH u.its, y ∈ allH t.its ∨ reco S y = none := by
 obtain ⟨ka, vb, hn, S2, S3, o3, hit, hmk, hpo, f3, r1, r2, r3, d1, d2, d3, l1, l2, l3, q3, g3⟩ := three_fit h.fit ha hb hr
 have hfr : ∀ y, reco S y ≠ none → reco S3 y = reco S y := fun y hy => q3 y (by rintro rfl; exact hy r1) (by rintro rfl; exact hy r2) (by rintro rfl; exact hy r3)
 obtain ⟨u, old, S5, tl, tr, mid, e5, B5, hmid, iu, hlt, hgt, g5, hfr5, hcase⟩ := insert_fit J (d := ⟨hn, ka, vb, a, b⟩) h hc f3 ha hb (by rintro y (rfl | rfl | rfl) <;> assumption) ⟨d1, d2, d3⟩ l1 l2 l3 rfl rfl (fun y hy => hfr y (h.some y hy))
 have hm1 : ∃ n1 : Nd, mid = [x] ∧ old = x.h ∧ reco S5 x.h = some (ndWords n1) ∧ n1.key = x.kh ∧ n1.val = x.vh := by
  have hnot : ∀ z, (z ∈ tl ∨ z ∈ tr) → z ≠ x := by
   rintro z hz rfl
   rcases hz with hz | hz
   · have := hlt z hz; simp only [hxk, cmpB_refl] at this; omega
   · have := hgt z hz; simp only [hxk, cmpB_refl] at this; omega
  rcases hcase with ⟨_, q⟩ | ⟨z, n1, ez, eo, _, e1, e2, e3⟩
  · rw [hmid, q] at hx
    simp only [List.append_nil, List.mem_append] at hx
    exact absurd rfl (hnot x hx)
  · have : z = x := by
     rw [hmid, ez] at hx
     simp only [List.mem_append, List.mem_cons, List.not_mem_nil, or_false] at hx
     rcases hx with (hx | hx) | hx
     · exact absurd rfl (hnot x (Or.inl hx))
     · exact hx.symm
     · exact absurd rfl (hnot x (Or.inr hx))
    subst this
    exact ⟨n1, ez, eo, e1, e2, e3⟩
 obtain ⟨n1, em, eo, x1, x2, x3⟩ := hm1
 have hxb := h.blobs x hx
 have hxh : x.h ∈ allH t.its := mem_allH.2 ⟨x, hx, Or.inl rfl⟩
 have hxk' : x.kh ∈ allH t.its := mem_allH.2 ⟨x, hx, Or.inr (Or.inl rfl)⟩
 have hxv' : x.vh ∈ allH t.its := mem_allH.2 ⟨x, hx, Or.inr (Or.inr rfl)⟩
 have hnd := h.nd
 have eall : allH t.its = allH tl ++ ([x.h, x.kh, x.vh] ++ allH tr) := by rw [hmid, em, allH_append, allH_append, List.append_assoc]; rfl
 rw [eall] at hnd
 have hnu : x.h ∉ allH u.its ∧ x.kh ∉ allH u.its ∧ x.vh ∉ allH u.its ∧ x.kh ≠ x.h ∧ x.vh ≠ x.h ∧ x.kh ≠ x.vh := by
  obtain ⟨p1, p2, p3⟩ := List.nodup_append.1 hnd
  obtain ⟨p4, p5, p6⟩ := List.nodup_append.1 p2
  have hw : ∀ y ∈ [x.h, x.kh, x.vh], y ∉ allH u.its := fun y hy hm => by
   rw [iu, allH_append, allH_cons] at hm
   have hys : reco S y ≠ none := h.some y (by rw [eall]; simp only [List.mem_append]; exact Or.inr (Or.inl hy))
   rcases List.mem_append.1 hm with hm | hm
   · exact p3 y hm y (by simp only [List.mem_append]; exact Or.inl hy) rfl
   · simp only [List.mem_cons] at hm
     rcases hm with hm | hm | hm | hm
     · exact hys (hm ▸ r3)
     · exact hys (hm ▸ r1)
     · exact hys (hm ▸ r2)
     · exact p6 y hy y hm rfl
  simp only [List.nodup_cons, List.mem_cons, List.not_mem_nil, or_false, not_or] at p4
  exact ⟨hw _ (by simp), hw _ (by simp), hw _ (by simp), fun q => p4.1.1 q.symm, fun q => p4.1.2 q.symm, p4.2.1⟩
 have hks : x.kh ∉ t.hs ∧ x.vh ∉ t.hs := h.hs.2 x hx
 have hkn : x.kh ≠ hn ∧ x.vh ≠ hn := ⟨fun q => h.some _ hxk' (q ▸ r3), fun q => h.some _ hxv' (q ▸ r3)⟩
 have k5 : reco S5 x.kh = some (wordsOf x.k) := (hfr5 _ hks.1 hkn.1).trans ((hfr _ (h.some _ hxk')).trans hxb.k)
 have v5 : reco S5 x.vh = some (wordsOf x.v) := (hfr5 _ hks.2 hkn.2).trans ((hfr _ (h.some _ hxv')).trans hxb.v)
 obtain ⟨S6, e6, f6, m6, o6, g6⟩ := dropNode_fit B5.fit x1
 have k6 := (o6 _ hnu.2.2.2.1).trans k5
 have v6 := (o6 _ hnu.2.2.2.2.1).trans v5
 obtain ⟨S7, e7, f7, m7, o7, g7⟩ := look_drop f6 k6
 have v7 := (o7 _ hnu.2.2.2.2.2.symm).trans v6
 obtain ⟨S8, e8, f8, m8, o8, g8⟩ := look_drop f7 v7
 refine ⟨u, S6, S8, o3, hpo, ?_, f6, getBlob_look f6 hxb.lv v6, by rw [e7]; exact f7.inv, by rw [e7, e8], B5.frame f8 (fun y hy => ?_), ?_, ?_, ((((g3.trans g5).trans g6).trans g7).trans g8).mono (by omega) (by omega), fun y hy hs => ?_, fun y hy => ?_⟩
 · unfold treeRepM
   rw [hit]
   simp only
   unfold binRepM
   rw [hmk]
   simp only
   rw [if_neg (by simp), e5]
   simp only
   rw [eo, e6]
   simp only
   rw [getNode_look B5.fit x1, x2, x3]
 · have w1 : y ≠ x.h := fun q => hnu.1 (q ▸ hy)
   have w2 : y ≠ x.kh := fun q => hnu.2.1 (q ▸ hy)
   have w3 : y ≠ x.vh := fun q => hnu.2.2.1 (q ▸ hy)
   exact (o8 y w3).trans ((o7 y w2).trans (o6 y w1))
 · rw [iu, hmid]
   exact putL_pairs ⟨rfl, rfl⟩ (fun z hz => by rw [em] at hz; simp only [List.mem_cons, List.not_mem_nil, or_false] at hz; rw [hz]; exact hxk) hlt hgt
 · rw [iu, hmid, em]; simp
 · have w1 : y ≠ x.h := fun q => hy (q ▸ hxh)
   have w2 : y ≠ x.kh := fun q => hy (q ▸ hxk')
   have w3 : y ≠ x.vh := fun q => hy (q ▸ hxv')
   refine (o8 y w3).trans ((o7 y w2).trans ((o6 y w1).trans ((hfr5 y (fun hm => ?_) ?_).trans (hfr y hs))))
   · obtain ⟨z, hz, rfl⟩ := List.mem_map.1 hm
     exact hy (mem_allH.2 ⟨z, hz, Or.inl rfl⟩)
   · rintro rfl; exact hs r3
 · rw [iu, allH_append, allH_cons] at hy
   rw [hmid, allH_append, allH_append]
   simp only [List.mem_append, List.mem_cons] at hy ⊢
   rcases hy with q | rfl | rfl | rfl | q
   · exact Or.inl (Or.inl (Or.inl q))
   · exact Or.inr r3
   · exact Or.inr r1
   · exact Or.inr r2
   · exact Or.inl (Or.inr q)
end Tr
end Go.Proofs.YtcibkdbpicledaaGreatDoor
namespace Go.Proofs.YtcibkdbpicledaaGreatDoor
open Lf Tr
def blobH (l : List It) : List Nat := l.flatMap fun d => [d.kh, d.vh]
theorem mem_blobH {l : List It} {y : Nat} : y ∈ blobH l ↔ ∃ d ∈ l, y = d.kh ∨ y = d.vh := by
 unfold blobH
 simp [List.mem_flatMap]
namespace Bt
structure Tree (S : St) (o : Nat → Nat) (t : Nat) {d : Nat} (x : Bt (d + 1)) : Prop where
 fit : Fit S o
 t1 : 2 ≤ t
 t2 : t ≤ 16
 at' : At S t x
 ok : Ok t x
 sorted : (its x).Pairwise klt
 blobs : ∀ a ∈ its x, Blobs S a
 few : (its x).length < 1000000
 nodes : (nodes x).Nodup
 texts : (blobH (its x)).Nodup
 apart : ∀ h ∈ Bt.nodes x, h ∉ blobH (its x)
 pos : 1 ≤ nk x
variable {S S' : St} {o o' : Nat → Nat} {t d : Nat} {x : Bt (d + 1)}
theorem Tree.walk (h : Tree S o t x) : Walk S o t x :=
 ⟨h.fit, h.t1, h.t2, h.at', h.ok, h.sorted, ⟨fun a ha => (blobs_lt h.fit (h.blobs a ha)).1, fun a ha => getBlob_look h.fit (h.blobs a ha).lk (h.blobs a ha).k⟩, h.few⟩
theorem Tree.low (h : Tree S o t x) : d < 19 := by
 have h1 := pow_le t h.t1 h.ok h.pos
 have h2 := h.few
 rcases Nat.lt_or_ge d 19 with h3 | h3
 · exact h3
 · have : 2 ^ 20 ≤ 2 ^ (d + 1) := Nat.pow_le_pow_right (by decide) (by omega)
   have e : 2 ^ 20 = 1048576 := by decide
   omega
def recs (x : Bt (d + 1)) : List Nat := Bt.nodes x ++ blobH (its x)
theorem Tree.has (h : Tree S o t x) : ∀ y ∈ recs x, reco S y ≠ none := fun y hy q => by
 rcases List.mem_append.1 hy with hy | hy
 · obtain ⟨n, e⟩ := h.at'.rec y hy
   rw [q] at e; cases e
 · obtain ⟨a, ha, e⟩ := mem_blobH.1 hy
   have hb := h.blobs a ha
   rcases e with rfl | rfl
   · have := hb.k; rw [q] at this; cases this
   · have := hb.v; rw [q] at this; cases this
theorem Tree.frame (h : Tree S o t x) (hf : Fit S' o') (hs : ∀ y ∈ recs x, reco S' y = reco S y) : Tree S' o' t x :=
 ⟨hf, h.t1, h.t2, h.at'.frame fun y hy => hs y (List.mem_append_left _ hy), h.ok, h.sorted, fun a ha => (h.blobs a ha).frame (hs _ (List.mem_append_right _ (mem_blobH.2 ⟨a, ha, Or.inl rfl⟩))) (hs _ (List.mem_append_right _ (mem_blobH.2 ⟨a, ha, Or.inr rfl⟩))), h.few, h.nodes, h.texts, h.apart, h.pos⟩
end Bt
end Go.Proofs.YtcibkdbpicledaaGreatDoor
namespace Go.Proofs.YtcibkdbpicledaaGreatDoor.Qc
open Go Go.RowKit
inductive Plan where
 | nil
 | take (i : Nat) (p : Plan)
 | go (i : Nat) (p : Plan)
 | two (i j : Nat) (p q : Plan)
 | three (i j k : Nat) (p q r : Plan)
def Plan.len : Plan → Nat
 | .nil => 0
 | .take _ p => p.len + 1
 | .go _ p => p.len + 1
 | .two _ _ p _ => p.len + 1
 | .three _ _ _ p _ _ => p.len + 1
section
variable {P : Program} {l : List Oper} {md : Region.Mode} {S : World → Prop} {Q : Exit → Act → World → Prop}
def wpPlan (P : Program) (l : List Oper) (Q : Exit → Act → World → Prop) (S : World → Prop) : Plan → Act → World → Prop
 | .nil, a, w => Q .normal a w
 | .take i p, a, w => ∃ o, l[i]? = some o ∧ ∃ v, YieldsIf P l.toArray S o v a ∧ wpPlan P l Q S p (a.put o.dst v) w
 | .go i p, a, w => ∃ o, l[i]? = some o ∧ Region.wanted o (yielded l.toArray a.tmps) = true ∧ o.wp P a w (fun a' w' => S w' ∧ wpPlan P l Q S p a' w') Q
 | .two i j p q, a, w => (∃ o, l[i]? = some o ∧ Region.wanted o (yielded l.toArray a.tmps) = true ∧ o.wp P a w (fun a' w' => S w' ∧ wpPlan P l Q S p a' w') Q) ∧
  (∃ o, l[j]? = some o ∧ Region.wanted o (yielded l.toArray a.tmps) = true ∧ o.wp P a w (fun a' w' => S w' ∧ wpPlan P l Q S q a' w') Q)
 | .three i j k p q r, a, w => (∃ o, l[i]? = some o ∧ Region.wanted o (yielded l.toArray a.tmps) = true ∧ o.wp P a w (fun a' w' => S w' ∧ wpPlan P l Q S p a' w') Q) ∧
  (∃ o, l[j]? = some o ∧ Region.wanted o (yielded l.toArray a.tmps) = true ∧ o.wp P a w (fun a' w' => S w' ∧ wpPlan P l Q S q a' w') Q) ∧
  (∃ o, l[k]? = some o ∧ Region.wanted o (yielded l.toArray a.tmps) = true ∧ o.wp P a w (fun a' w' => S w' ∧ wpPlan P l Q S r a' w') Q)
def planB (md : Region.Mode) (ops : Array Oper) : Plan → Array Bool → Bool
 | .nil, listed => (Region.ready md ops listed).isEmpty
 | .take i p, listed => (Region.ready md ops listed).contains i && Region.free md ops listed i && planB md ops p (listed.setIfInBounds i true)
 | .go i p, listed => decide (Region.ready md ops listed = [i]) && planB md ops p (listed.setIfInBounds i true)
 | .two i j p q, listed => decide (Region.ready md ops listed = [i, j]) && decide (p.len = q.len) && planB md ops p (listed.setIfInBounds i true) && planB md ops q (listed.setIfInBounds j true)
 | .three i j k p q r, listed => decide (Region.ready md ops listed = [i, j, k]) && decide (p.len = q.len) && decide (p.len = r.len) && planB md ops p (listed.setIfInBounds i true) && planB md ops q (listed.setIfInBounds j true) && planB md ops r (listed.setIfInBounds k true)
theorem wpAnyH_plan (hsel : Region.noSelect l.toArray = true) (hQ : ∀ d v c a w, Q (.panic c) (Act.put a d v) w → Q (.panic c) a w) :
 ∀ (p : Plan) (listed : Array Bool) (a : Act) (w : World), planB md l.toArray p listed = true → S w → wpPlan P l Q S p a w → wpAnyH P md l.toArray Q S p.len listed a w
 | .nil, _, _, _, hB, _, h => ⟨by simpa [planB] using hB, h⟩
 | .take i p, listed, a, w, hB, hS, h => by
  simp only [planB, Bool.and_eq_true] at hB
  obtain ⟨⟨hr, hf⟩, hB'⟩ := hB
  obtain ⟨o, h0, v, hy, hK⟩ := h
  have h0' : l.toArray[i]? = some o := by simpa using h0
  exact wpAnyH_take h0' hsel hf hr (fun c a w => hQ _ _ c a w) hy hS (wpAnyH_plan hsel hQ p _ _ _ hB' hS hK)
 | .go j p, listed, a, w, hB, hS, h => by
  simp only [planB, Bool.and_eq_true, decide_eq_true_eq] at hB
  refine ⟨fun h1 => (by rw [hB.1] at h1; cases h1), fun i hi => ?_⟩
  rw [hB.1] at hi
  have hik : i = j := by simpa using hi
  subst hik
  have hrec := fun a' w' (hs : S w') (hq : wpPlan P l Q S p a' w') => wpAnyH_plan hsel hQ p (listed.setIfInBounds i true) a' w' hB.2 hs hq
  obtain ⟨o, h0, hw, hh⟩ := h
  have h0' : l.toArray[i]? = some o := by simpa using h0
  unfold wpOp
  simp only [h0', hw, if_true]
  exact .inl (Oper.wp_mono (fun a' w' h' => ⟨h'.1, hrec a' w' h'.1 h'.2⟩) hh)
 | .two i j p q, listed, a, w, hB, hS, h => by
  simp only [planB, Bool.and_eq_true, decide_eq_true_eq] at hB
  obtain ⟨⟨⟨hr, hlen⟩, hp⟩, hq⟩ := hB
  refine ⟨fun h1 => (by rw [hr] at h1; cases h1), fun k hk => ?_⟩
  rw [hr] at hk
  have hk' : k = i ∨ k = j := by simpa using hk
  rcases hk' with rfl | rfl
  · have hrec := fun a' w' (hs : S w') (hq' : wpPlan P l Q S p a' w') => wpAnyH_plan hsel hQ p (listed.setIfInBounds k true) a' w' hp hs hq'
    obtain ⟨o, h0, hw, hh⟩ := h.1
    have h0' : l.toArray[k]? = some o := by simpa using h0
    unfold wpOp
    simp only [h0', hw, if_true]
    exact .inl (Oper.wp_mono (fun a' w' h' => ⟨h'.1, hrec a' w' h'.1 h'.2⟩) hh)
  · have hrec := fun a' w' (hs : S w') (hq' : wpPlan P l Q S q a' w') => wpAnyH_plan hsel hQ q (listed.setIfInBounds k true) a' w' hq hs hq'
    rw [← hlen] at hrec
    obtain ⟨o, h0, hw, hh⟩ := h.2
    have h0' : l.toArray[k]? = some o := by simpa using h0
    unfold wpOp
    simp only [h0', hw, if_true]
    exact .inl (Oper.wp_mono (fun a' w' h' => ⟨h'.1, hrec a' w' h'.1 h'.2⟩) hh)
 | .three i j m p q r, listed, a, w, hB, hS, h => by
  simp only [planB, Bool.and_eq_true, decide_eq_true_eq] at hB
  obtain ⟨⟨⟨⟨⟨hr, hlen⟩, hlen2⟩, hp⟩, hq⟩, hr3⟩ := hB
  refine ⟨fun h1 => (by rw [hr] at h1; cases h1), fun k hk => ?_⟩
  rw [hr] at hk
  have hk' : k = i ∨ k = j ∨ k = m := by simpa using hk
  rcases hk' with rfl | rfl | rfl
  · have hrec := fun a' w' (hs : S w') (hq' : wpPlan P l Q S p a' w') => wpAnyH_plan hsel hQ p (listed.setIfInBounds k true) a' w' hp hs hq'
    obtain ⟨o, h0, hw, hh⟩ := h.1
    have h0' : l.toArray[k]? = some o := by simpa using h0
    unfold wpOp
    simp only [h0', hw, if_true]
    exact .inl (Oper.wp_mono (fun a' w' h' => ⟨h'.1, hrec a' w' h'.1 h'.2⟩) hh)
  · have hrec := fun a' w' (hs : S w') (hq' : wpPlan P l Q S q a' w') => wpAnyH_plan hsel hQ q (listed.setIfInBounds k true) a' w' hq hs hq'
    rw [← hlen] at hrec
    obtain ⟨o, h0, hw, hh⟩ := h.2.1
    have h0' : l.toArray[k]? = some o := by simpa using h0
    unfold wpOp
    simp only [h0', hw, if_true]
    exact .inl (Oper.wp_mono (fun a' w' h' => ⟨h'.1, hrec a' w' h'.1 h'.2⟩) hh)
  · have hrec := fun a' w' (hs : S w') (hq' : wpPlan P l Q S r a' w') => wpAnyH_plan hsel hQ r (listed.setIfInBounds k true) a' w' hr3 hs hq'
    rw [← hlen2] at hrec
    obtain ⟨o, h0, hw, hh⟩ := h.2.2
    have h0' : l.toArray[k]? = some o := by simpa using h0
    unfold wpOp
    simp only [h0', hw, if_true]
    exact .inl (Oper.wp_mono (fun a' w' h' => ⟨h'.1, hrec a' w' h'.1 h'.2⟩) hh)
def lexPlanB (md : Region.Mode) (ops : Array Oper) (p : Plan) : Bool :=
 Region.noSelect ops && decide (p.len = ops.size) && planB md ops p (Array.replicate ops.size false)
end
end Qc
