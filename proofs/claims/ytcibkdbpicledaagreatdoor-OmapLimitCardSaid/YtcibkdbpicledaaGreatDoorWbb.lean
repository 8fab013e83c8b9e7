import Derived.Test.YtcibkdbpicledaaGreatDoorWba
set_option maxRecDepth 100000
set_option maxHeartbeats 3200000
namespace Go.Proofs.YtcibkdbpicledaaGreatDoor
open Go.RowKit Go.BigFrame Go.Maps Go.WideMaps Lf
theorem sides_lt {w : World} {ps : Nat} {S : St} {Y : Nat → Prop} (h : StOn w ps S Y) (tu : Bool) (hh : Nat) : (sidesT S tu hh).1 < 18446744073709551616 ∧ (sidesT S tu hh).2 < 18446744073709551616 := by
 have := getNode_lt h hh
 unfold sidesT
 split
 · exact ⟨this.right, this.left⟩
 · exact ⟨this.left, this.right⟩
theorem rb_join_deep {w : World} {ps : Nat} {S S' : St} {Y : Nat → Prop} (h : StOn w ps S Y) (hi : Inv S) (tu : Bool) (m t low : Nat) (hm : m < 18446744073709551616) (ht : t < 18446744073709551616) (hw : low < 18446744073709551616) (d : Nat) (hd : d ≤ 200) (h200 : d = 200) (hp : putJ S tu m t low true = some S') :
 Calls Tryz.prog 250 #[jnV ps tu, .int .u64 t, .int .u64 m, .int .u64 low, .int .i64 d] w fun e w' => e = .returned (.int .u64 m) ∧ StOn w' ps S' Y ∧ Keep Y w w' := by
 unfold jnV
 have cp := fun W (hW : StOn W ps S (fun k => Y k ∨ (w.heap.size ≤ k ∧ k < w.heap.size + 1))) => rb_jput hW hi tu m t low true hm ht hw hp
 subst h200
 unfold jnV at cp
 have q0 := heap_alloc_new w (.cells #[PV ps, .bool tu] 324)
 have B0 := (Below.refl w.heap.size w).alloc (Nat.le_refl _) (.cells #[PV ps, .bool tu] 324)
 have sz0 : (w.alloc (.cells #[PV ps, .bool tu] 324)).heap.size = w.heap.size + 1 := by simp
 have z0 := h.wide B0
 rw [sz0] at z0
 have k0 : Keep Y w (w.alloc (.cells #[PV ps, .bool tu] 324)) := Keep.of_below B0 h.yl
 have lt0 : w.heap.size < (w.alloc (.cells #[PV ps, .bool tu] 324)).heap.size := by omega
 have HG := Lib.hid cp
 clear cp hp hi lt0 sz0 hd
 have H0 := kq3 z0 q0 k0
 clear z0 q0 k0 B0 h
 go_enter Tryz.func250, Tryz.ntmps250
 go_wp2_with fail
 have sz1 : w.heap.size < (w.alloc (.cells #[PV ps, .bool tu] 324)).heap.size := by simp
 have hx0 : ∀ x : Keeps (Below (w.alloc (.cells #[PV ps, .bool tu] 324)).heap.size (w.alloc (.cells #[PV ps, .bool tu] 324))), x.to.cell? ⟨w.heap.size, 0, none⟩ = some (PV ps) := fun x => by rw [cell_of_block ((x.ok.block _ sz1).trans H0.out.2.1)]; rfl
 generalize hW0 : w.alloc (.cells #[PV ps, .bool tu] 324) = W0 at *
 refine wp_region_keeps (Below W0.heap.size W0) (by kernel_rfl) (by kernel_rfl) (Below.refl _ _).drew (fun _ => ?_)
 repeat (first | go_big_quiet_skip | (go_big_quiet_want; go_big_quiet_op; go_big_quiet_on))
 refine wpQuiet_nil ?_
 rintro _ ⟨v, rfl⟩
 have rr := (v.ok.block w.heap.size sz1).trans H0.out.2.1
 have hs := H0.out.1.below v.ok
 have hk := H0.out.2.2.trans ((H0.out.1.keep v.ok).mono (fun k hk => Or.inl hk))
 obtain ⟨w1, hw1⟩ : ∃ w1, v.to = w1 := ⟨_, rfl⟩
 rw [hw1] at rr hs hk ⊢
 clear hw1 v hx0 
 obtain ⟨c0, c1⟩ := cells2 rr
 have H1 := kq3 hs rr hk
 clear rr hs hk
 go_wp2_with fail
 clear c0 c1
 refine (HG.out _ H1.out.1).mono ?_
 rintro e w2 ⟨rfl, hs, hkz⟩
 have rr := (hkz.block w.heap.size (Or.inr ⟨Nat.le_refl _, Nat.lt_succ_self _⟩)).trans H1.out.2.1
 have hk := H1.out.2.2.trans (hkz.mono (fun k hk => Or.inl hk))
 obtain ⟨c0, c1⟩ := cells2 rr
 have H2 := kq3 hs rr hk
 clear hkz rr hs hk
 go_wp2_with fail
 clear c0 c1
 go_ret
 exact ⟨rfl, H2.out.1.mono (fun k hk => Or.inl hk), H2.out.2.2⟩
theorem rb_join_stop {w : World} {ps : Nat} {S S' : St} {Y : Nat → Prop} (h : StOn w ps S Y) (hi : Inv S) (tu : Bool) (m t low : Nat) (hm : m < 18446744073709551616) (ht : t < 18446744073709551616) (hw : low < 18446744073709551616) (d : Nat) (_ : d ≤ 200) (h200 : d ≠ 200) (hr : redT S t = false) (hb : blackT S t = blackT S low) (hp : putJ S tu m t low true = some S') :
 Calls Tryz.prog 250 #[jnV ps tu, .int .u64 t, .int .u64 m, .int .u64 low, .int .i64 d] w fun e w' => e = .returned (.int .u64 m) ∧ StOn w' ps S' Y ∧ Keep Y w w' := by
 unfold jnV
 have cp := fun W (hW : StOn W ps S (fun k => Y k ∨ (w.heap.size ≤ k ∧ k < w.heap.size + 1))) => rb_jput hW hi tu m t low true hm ht hw hp
 have hrt := fun W (hW : StOn W ps S (fun k => Y k ∨ (w.heap.size ≤ k ∧ k < w.heap.size + 1))) => rb_red hW hi t ht
 have hbt := fun W (hW : StOn W ps S (fun k => Y k ∨ (w.heap.size ≤ k ∧ k < w.heap.size + 1))) => rb_black hW hi t ht
 have hbl := fun W (hW : StOn W ps S (fun k => Y k ∨ (w.heap.size ≤ k ∧ k < w.heap.size + 1))) => rb_black hW hi low hw
 rw [hr] at hrt
 rw [hb] at hbt
 generalize blackT S low = bk at *
 have hq : ((d : Int) == 200) = false := by simp; omega
 unfold jnV at cp
 have q0 := heap_alloc_new w (.cells #[PV ps, .bool tu] 324)
 have B0 := (Below.refl w.heap.size w).alloc (Nat.le_refl _) (.cells #[PV ps, .bool tu] 324)
 have sz0 : (w.alloc (.cells #[PV ps, .bool tu] 324)).heap.size = w.heap.size + 1 := by simp
 have z0 := h.wide B0
 rw [sz0] at z0
 have k0 : Keep Y w (w.alloc (.cells #[PV ps, .bool tu] 324)) := Keep.of_below B0 h.yl
 have lt0 : w.heap.size < (w.alloc (.cells #[PV ps, .bool tu] 324)).heap.size := by omega
 have HG := kq4 cp hrt hbt hbl
 clear cp hrt hbt hbl hp hi lt0 sz0 hr hb h200
 have H0 := kq3 z0 q0 k0
 clear z0 q0 k0 B0 h
 go_enter Tryz.func250, Tryz.ntmps250
 go_wp2_with fail
 have sz1 : w.heap.size < (w.alloc (.cells #[PV ps, .bool tu] 324)).heap.size := by simp
 have hx0 : ∀ x : Keeps (Below (w.alloc (.cells #[PV ps, .bool tu] 324)).heap.size (w.alloc (.cells #[PV ps, .bool tu] 324))), x.to.cell? ⟨w.heap.size, 0, none⟩ = some (PV ps) := fun x => by rw [cell_of_block ((x.ok.block _ sz1).trans H0.out.2.1)]; rfl
 have a_hrt := fun x : Keeps (Below (w.alloc (.cells #[PV ps, .bool tu] 324)).heap.size (w.alloc (.cells #[PV ps, .bool tu] 324))) => Calls.keeps_below (HG.out.2.1 x.to (H0.out.1.below x.ok))
 have a_hbt := fun x : Keeps (Below (w.alloc (.cells #[PV ps, .bool tu] 324)).heap.size (w.alloc (.cells #[PV ps, .bool tu] 324))) => Calls.keeps_below (HG.out.2.2.1 x.to (H0.out.1.below x.ok))
 have a_hbl := fun x : Keeps (Below (w.alloc (.cells #[PV ps, .bool tu] 324)).heap.size (w.alloc (.cells #[PV ps, .bool tu] 324))) => Calls.keeps_below (HG.out.2.2.2 x.to (H0.out.1.below x.ok))
 generalize hW0 : w.alloc (.cells #[PV ps, .bool tu] 324) = W0 at *
 refine wp_region_keeps (Below W0.heap.size W0) (by kernel_rfl) (by kernel_rfl) (Below.refl _ _).drew (fun _ => ?_)
 repeat (first | go_big_quiet_skip | (go_big_quiet_want; go_big_quiet_op; first | go_big_quiet_on | (apply Exists.intro; refine ⟨fun x => ?_, ?_⟩; (· first | with_reducible exact a_hrt x | with_reducible exact a_hbt x | with_reducible exact a_hbl x); go_big_quiet_on)))
 refine wpQuiet_nil ?_
 rintro _ ⟨v, rfl⟩
 have rr := (v.ok.block w.heap.size sz1).trans H0.out.2.1
 have hs := H0.out.1.below v.ok
 have hk := H0.out.2.2.trans ((H0.out.1.keep v.ok).mono (fun k hk => Or.inl hk))
 obtain ⟨w1, hw1⟩ : ∃ w1, v.to = w1 := ⟨_, rfl⟩
 rw [hw1] at rr hs hk ⊢
 clear hw1 v hx0 a_hrt a_hbt a_hbl
 obtain ⟨c0, c1⟩ := cells2 rr
 have H1 := kq3 hs rr hk
 clear rr hs hk
 go_wp2_with fail
 clear c0 c1
 refine (HG.out.1 _ H1.out.1).mono ?_
 rintro e w2 ⟨rfl, hs, hkz⟩
 have rr := (hkz.block w.heap.size (Or.inr ⟨Nat.le_refl _, Nat.lt_succ_self _⟩)).trans H1.out.2.1
 have hk := H1.out.2.2.trans (hkz.mono (fun k hk => Or.inl hk))
 obtain ⟨c0, c1⟩ := cells2 rr
 have H2 := kq3 hs rr hk
 clear hkz rr hs hk
 go_wp2_with fail
 clear c0 c1
 go_ret
 exact ⟨rfl, H2.out.1.mono (fun k hk => Or.inl hk), H2.out.2.2⟩
theorem rb_join_red {w : World} {ps : Nat} {S : St} {Y : Nat → Prop} (h : StOn w ps S Y) (hi : Inv S) (tu : Bool) (m t low : Nat) (_ : m < 18446744073709551616) (ht : t < 18446744073709551616) (_ : low < 18446744073709551616) (d : Nat) (hd : d ≤ 200) (h200 : d ≠ 200) (hr : redT S t = true) {x1 : Nat} {S1 S2 : St} (hx1 : x1 < 18446744073709551616) (hi1 : Inv S1) (_ : Inv S2)
 (cr : ∀ (W : World) (Z : Nat → Prop), StOn W ps S Z → Calls Tryz.prog 250 #[jnV ps tu, .int .u64 (sidesT S tu t).2, .int .u64 m, .int .u64 low, .int .i64 ((d : Int) + 1)] W fun e w' => e = .returned (.int .u64 x1) ∧ StOn w' ps S1 Z ∧ Keep Z W w')
 (hp : putJ S1 tu t (sidesT S tu t).1 x1 (redT S t) = some S2) :
 Calls Tryz.prog 250 #[jnV ps tu, .int .u64 t, .int .u64 m, .int .u64 low, .int .i64 d] w fun e w' => e = .returned (.int .u64 t) ∧ StOn w' ps S2 Y ∧ Keep Y w w' := by
 have hso := sides_lt h tu t
 unfold jnV at cr ⊢
 have hrt := fun W (hW : StOn W ps S (fun k => Y k ∨ (w.heap.size ≤ k ∧ k < w.heap.size + 1))) => rb_red hW hi t ht
 have hst := fun W (hW : StOn W ps S (fun k => Y k ∨ (w.heap.size ≤ k ∧ k < w.heap.size + 1))) => rb_sides hW hi tu t ht
 have cp := fun W (hW : StOn W ps S1 (fun k => Y k ∨ (w.heap.size ≤ k ∧ k < w.heap.size + 1))) => rb_jput hW hi1 tu t (sidesT S tu t).1 x1 (redT S t) ht hso.1 hx1 hp
 have cr := fun W (hW : StOn W ps S (fun k => Y k ∨ (w.heap.size ≤ k ∧ k < w.heap.size + 1))) => cr W _ hW
 try unfold jnV at hst
 try unfold jnV at cp
 rw [hr] at hrt cp
 obtain ⟨⟨oth, own⟩, hst0⟩ : ∃ r, sidesT S tu t = r := ⟨_, rfl⟩
 rw [hst0] at hst cp cr
 simp only at hst cp cr
 have hq : ((d : Int) == 200) = false := by simp; omega
 have hdw : IntKind.i64.wrap ((d : Int) + 1) = (d : Int) + 1 := IntWalk.i64_in _ (by omega)
 have q0 := heap_alloc_new w (.cells #[PV ps, .bool tu] 324)
 have B0 := (Below.refl w.heap.size w).alloc (Nat.le_refl _) (.cells #[PV ps, .bool tu] 324)
 have sz0 : (w.alloc (.cells #[PV ps, .bool tu] 324)).heap.size = w.heap.size + 1 := by simp
 have z0 := h.wide B0
 rw [sz0] at z0
 have k0 : Keep Y w (w.alloc (.cells #[PV ps, .bool tu] 324)) := Keep.of_below B0 h.yl
 have lt0 : w.heap.size < (w.alloc (.cells #[PV ps, .bool tu] 324)).heap.size := by omega
 have HG := kq4 hrt hst cp cr
 clear hrt hst cp cr hp hi hi1 lt0 sz0 hr h200 hst0 hso
 have H0 := kq3 z0 q0 k0
 clear z0 q0 k0 B0 h
 go_enter Tryz.func250, Tryz.ntmps250
 go_wp2_with fail
 have sz1 : w.heap.size < (w.alloc (.cells #[PV ps, .bool tu] 324)).heap.size := by simp
 have hx0 : ∀ x : Keeps (Below (w.alloc (.cells #[PV ps, .bool tu] 324)).heap.size (w.alloc (.cells #[PV ps, .bool tu] 324))), x.to.cell? ⟨w.heap.size, 0, none⟩ = some (PV ps) := fun x => by rw [cell_of_block ((x.ok.block _ sz1).trans H0.out.2.1)]; rfl
 have a_hrt := fun x : Keeps (Below (w.alloc (.cells #[PV ps, .bool tu] 324)).heap.size (w.alloc (.cells #[PV ps, .bool tu] 324))) => Calls.keeps_below (HG.out.1 x.to (H0.out.1.below x.ok))
 generalize hW0 : w.alloc (.cells #[PV ps, .bool tu] 324) = W0 at *
 refine wp_region_keeps (Below W0.heap.size W0) (by kernel_rfl) (by kernel_rfl) (Below.refl _ _).drew (fun _ => ?_)
 repeat (first | go_big_quiet_skip | (go_big_quiet_want; go_big_quiet_op; first | go_big_quiet_on | (apply Exists.intro; refine ⟨fun x => ?_, ?_⟩; (· first | with_reducible exact a_hrt x); go_big_quiet_on)))
 refine wpQuiet_nil ?_
 rintro _ ⟨v, rfl⟩
 have rr := (v.ok.block w.heap.size sz1).trans H0.out.2.1
 have hs := H0.out.1.below v.ok
 have hk := H0.out.2.2.trans ((H0.out.1.keep v.ok).mono (fun k hk => Or.inl hk))
 obtain ⟨w1, hw1⟩ : ∃ w1, v.to = w1 := ⟨_, rfl⟩
 rw [hw1] at rr hs hk ⊢
 clear hw1 v hx0 a_hrt
 obtain ⟨c0, c1⟩ := cells2 rr
 have H1 := kq3 hs rr hk
 clear rr hs hk
 go_wp2_with fail
 clear c0 c1
 refine (HG.out.2.1 _ H1.out.1).mono ?_
 rintro e w2 ⟨rfl, hb⟩
 have rr := (hb.block w.heap.size (gl H1.out.2.1)).trans H1.out.2.1
 have hs := H1.out.1.below hb
 have hk := H1.out.2.2.trans ((H1.out.1.keep hb).mono (fun k hk => Or.inl hk))
 obtain ⟨c0, c1⟩ := cells2 rr
 have H2 := kq3 hs rr hk
 clear hb rr hs hk
 go_wp2_with fail
 clear c0 c1
 refine (HG.out.1 _ H2.out.1).mono ?_
 rintro e w3 ⟨rfl, hb⟩
 have rr := (hb.block w.heap.size (gl H2.out.2.1)).trans H2.out.2.1
 have hs := H2.out.1.below hb
 have hk := H2.out.2.2.trans ((H2.out.1.keep hb).mono (fun k hk => Or.inl hk))
 obtain ⟨c0, c1⟩ := cells2 rr
 have H3 := kq3 hs rr hk
 clear hb rr hs hk
 go_wp2_with fail
 clear c0 c1
 refine (HG.out.2.2.2 _ H3.out.1).mono ?_
 rintro e w4 ⟨rfl, hs, hkz⟩
 have rr := (hkz.block w.heap.size (Or.inr ⟨Nat.le_refl _, Nat.lt_succ_self _⟩)).trans H3.out.2.1
 have hk := H3.out.2.2.trans (hkz.mono (fun k hk => Or.inl hk))
 obtain ⟨c0, c1⟩ := cells2 rr
 have H4 := kq3 hs rr hk
 clear hkz rr hs hk
 go_wp2_with fail
 clear c0 c1
 refine (HG.out.2.2.1 _ H4.out.1).mono ?_
 rintro e w5 ⟨rfl, hs, hkz⟩
 have rr := (hkz.block w.heap.size (Or.inr ⟨Nat.le_refl _, Nat.lt_succ_self _⟩)).trans H4.out.2.1
 have hk := H4.out.2.2.trans (hkz.mono (fun k hk => Or.inl hk))
 obtain ⟨c0, c1⟩ := cells2 rr
 have H5 := kq3 hs rr hk
 clear hkz rr hs hk
 go_wp2_with fail
 clear c0 c1
 go_ret
 exact ⟨rfl, H5.out.1.mono (fun k hk => Or.inl hk), H5.out.2.2⟩
theorem rb_join_b1 {w : World} {ps : Nat} {S : St} {Y : Nat → Prop} (h : StOn w ps S Y) (hi : Inv S) (tu : Bool) (m t low : Nat) (_ : m < 18446744073709551616) (ht : t < 18446744073709551616) (hw : low < 18446744073709551616) (d : Nat) (hd : d ≤ 200) (h200 : d ≠ 200) (hr : redT S t = false) (hb : blackT S t ≠ blackT S low) {x1 : Nat} {S1 S2 : St} (hx1 : x1 < 18446744073709551616) (hi1 : Inv S1) (hi2 : Inv S2)
 (cr : ∀ (W : World) (Z : Nat → Prop), StOn W ps S Z → Calls Tryz.prog 250 #[jnV ps tu, .int .u64 (sidesT S tu t).2, .int .u64 m, .int .u64 low, .int .i64 ((d : Int) + 1)] W fun e w' => e = .returned (.int .u64 x1) ∧ StOn w' ps S1 Z ∧ Keep Z W w')
 (hp : putJ S1 tu t (sidesT S tu t).1 x1 (redT S t) = some S2) (hf : redT S2 x1 = false) :
 Calls Tryz.prog 250 #[jnV ps tu, .int .u64 t, .int .u64 m, .int .u64 low, .int .i64 d] w fun e w' => e = .returned (.int .u64 t) ∧ StOn w' ps S2 Y ∧ Keep Y w w' := by
 have hso := sides_lt h tu t
 unfold jnV at cr ⊢
 have hrt := fun W (hW : StOn W ps S (fun k => Y k ∨ (w.heap.size ≤ k ∧ k < w.heap.size + 1))) => rb_red hW hi t ht
 have hst := fun W (hW : StOn W ps S (fun k => Y k ∨ (w.heap.size ≤ k ∧ k < w.heap.size + 1))) => rb_sides hW hi tu t ht
 have cp := fun W (hW : StOn W ps S1 (fun k => Y k ∨ (w.heap.size ≤ k ∧ k < w.heap.size + 1))) => rb_jput hW hi1 tu t (sidesT S tu t).1 x1 (redT S t) ht hso.1 hx1 hp
 have hbt := fun W (hW : StOn W ps S (fun k => Y k ∨ (w.heap.size ≤ k ∧ k < w.heap.size + 1))) => rb_black hW hi t ht
 have hbl := fun W (hW : StOn W ps S (fun k => Y k ∨ (w.heap.size ≤ k ∧ k < w.heap.size + 1))) => rb_black hW hi low hw
 have hrx := fun W (hW : StOn W ps S2 (fun k => Y k ∨ (w.heap.size ≤ k ∧ k < w.heap.size + 1))) => rb_red hW hi2 x1 hx1
 have cr := fun W (hW : StOn W ps S (fun k => Y k ∨ (w.heap.size ≤ k ∧ k < w.heap.size + 1))) => cr W _ hW
 try unfold jnV at hst
 try unfold jnV at cp
 rw [hr] at hrt cp
 rw [hf] at hrx
 have hq2 : (((blackT S t : Nat) : Int) == (blackT S low : Nat)) = false := by simp; omega
 generalize blackT S t = bk1 at *
 generalize blackT S low = bk2 at *
 obtain ⟨⟨oth, own⟩, hst0⟩ : ∃ r, sidesT S tu t = r := ⟨_, rfl⟩
 rw [hst0] at hst cp cr
 simp only at hst cp cr
 have hq : ((d : Int) == 200) = false := by simp; omega
 have hdw : IntKind.i64.wrap ((d : Int) + 1) = (d : Int) + 1 := IntWalk.i64_in _ (by omega)
 have q0 := heap_alloc_new w (.cells #[PV ps, .bool tu] 324)
 have B0 := (Below.refl w.heap.size w).alloc (Nat.le_refl _) (.cells #[PV ps, .bool tu] 324)
 have sz0 : (w.alloc (.cells #[PV ps, .bool tu] 324)).heap.size = w.heap.size + 1 := by simp
 have z0 := h.wide B0
 rw [sz0] at z0
 have k0 : Keep Y w (w.alloc (.cells #[PV ps, .bool tu] 324)) := Keep.of_below B0 h.yl
 have lt0 : w.heap.size < (w.alloc (.cells #[PV ps, .bool tu] 324)).heap.size := by omega
 have HG := kq7 hrt hst cp hbt hbl hrx cr
 clear hrt hst cp hbt hbl hrx cr hp hi hi1 hi2 lt0 sz0 hr h200 hst0 hso hb hf
 have H0 := kq3 z0 q0 k0
 clear z0 q0 k0 B0 h
 go_enter Tryz.func250, Tryz.ntmps250
 go_wp2_with fail
 have sz1 : w.heap.size < (w.alloc (.cells #[PV ps, .bool tu] 324)).heap.size := by simp
 have hx0 : ∀ x : Keeps (Below (w.alloc (.cells #[PV ps, .bool tu] 324)).heap.size (w.alloc (.cells #[PV ps, .bool tu] 324))), x.to.cell? ⟨w.heap.size, 0, none⟩ = some (PV ps) := fun x => by rw [cell_of_block ((x.ok.block _ sz1).trans H0.out.2.1)]; rfl
 have a_hrt := fun x : Keeps (Below (w.alloc (.cells #[PV ps, .bool tu] 324)).heap.size (w.alloc (.cells #[PV ps, .bool tu] 324))) => Calls.keeps_below (HG.out.1 x.to (H0.out.1.below x.ok))
 have a_hbt := fun x : Keeps (Below (w.alloc (.cells #[PV ps, .bool tu] 324)).heap.size (w.alloc (.cells #[PV ps, .bool tu] 324))) => Calls.keeps_below (HG.out.2.2.2.1 x.to (H0.out.1.below x.ok))
 have a_hbl := fun x : Keeps (Below (w.alloc (.cells #[PV ps, .bool tu] 324)).heap.size (w.alloc (.cells #[PV ps, .bool tu] 324))) => Calls.keeps_below (HG.out.2.2.2.2.1 x.to (H0.out.1.below x.ok))
 generalize hW0 : w.alloc (.cells #[PV ps, .bool tu] 324) = W0 at *
 refine wp_region_keeps (Below W0.heap.size W0) (by kernel_rfl) (by kernel_rfl) (Below.refl _ _).drew (fun _ => ?_)
 repeat (first | go_big_quiet_skip | (go_big_quiet_want; go_big_quiet_op; first | go_big_quiet_on | (apply Exists.intro; refine ⟨fun x => ?_, ?_⟩; (· first | with_reducible exact a_hrt x | with_reducible exact a_hbt x | with_reducible exact a_hbl x); go_big_quiet_on)))
 refine wpQuiet_nil ?_
 rintro _ ⟨v, rfl⟩
 have rr := (v.ok.block w.heap.size sz1).trans H0.out.2.1
 have hs := H0.out.1.below v.ok
 have hk := H0.out.2.2.trans ((H0.out.1.keep v.ok).mono (fun k hk => Or.inl hk))
 obtain ⟨w1, hw1⟩ : ∃ w1, v.to = w1 := ⟨_, rfl⟩
 rw [hw1] at rr hs hk ⊢
 clear hw1 v hx0 a_hrt a_hbt a_hbl
 obtain ⟨c0, c1⟩ := cells2 rr
 have H1 := kq3 hs rr hk
 clear rr hs hk
 go_wp2_with fail
 clear c0 c1
 refine (HG.out.2.1 _ H1.out.1).mono ?_
 rintro e w2 ⟨rfl, hb⟩
 have rr := (hb.block w.heap.size (gl H1.out.2.1)).trans H1.out.2.1
 have hs := H1.out.1.below hb
 have hk := H1.out.2.2.trans ((H1.out.1.keep hb).mono (fun k hk => Or.inl hk))
 obtain ⟨c0, c1⟩ := cells2 rr
 have H2 := kq3 hs rr hk
 clear hb rr hs hk
 go_wp2_with fail
 clear c0 c1
 refine (HG.out.1 _ H2.out.1).mono ?_
 rintro e w3 ⟨rfl, hb⟩
 have rr := (hb.block w.heap.size (gl H2.out.2.1)).trans H2.out.2.1
 have hs := H2.out.1.below hb
 have hk := H2.out.2.2.trans ((H2.out.1.keep hb).mono (fun k hk => Or.inl hk))
 obtain ⟨c0, c1⟩ := cells2 rr
 have H3 := kq3 hs rr hk
 clear hb rr hs hk
 go_wp2_with fail
 clear c0 c1
 refine (HG.out.2.2.2.2.2.2 _ H3.out.1).mono ?_
 rintro e w4 ⟨rfl, hs, hkz⟩
 have rr := (hkz.block w.heap.size (Or.inr ⟨Nat.le_refl _, Nat.lt_succ_self _⟩)).trans H3.out.2.1
 have hk := H3.out.2.2.trans (hkz.mono (fun k hk => Or.inl hk))
 obtain ⟨c0, c1⟩ := cells2 rr
 have H4 := kq3 hs rr hk
 clear hkz rr hs hk
 go_wp2_with fail
 clear c0 c1
 refine (HG.out.2.2.1 _ H4.out.1).mono ?_
 rintro e w5 ⟨rfl, hs, hkz⟩
 have rr := (hkz.block w.heap.size (Or.inr ⟨Nat.le_refl _, Nat.lt_succ_self _⟩)).trans H4.out.2.1
 have hk := H4.out.2.2.trans (hkz.mono (fun k hk => Or.inl hk))
 obtain ⟨c0, c1⟩ := cells2 rr
 have H5 := kq3 hs rr hk
 clear hkz rr hs hk
 go_wp2_with fail
 clear c0 c1
 refine (HG.out.2.2.2.2.2.1 _ H5.out.1).mono ?_
 rintro e w6 ⟨rfl, hb⟩
 have rr := (hb.block w.heap.size (gl H5.out.2.1)).trans H5.out.2.1
 have hs := H5.out.1.below hb
 have hk := H5.out.2.2.trans ((H5.out.1.keep hb).mono (fun k hk => Or.inl hk))
 obtain ⟨c0, c1⟩ := cells2 rr
 have H6 := kq3 hs rr hk
 clear hb rr hs hk
 go_wp2_with fail
 clear c0 c1
 go_ret
 exact ⟨rfl, H6.out.1.mono (fun k hk => Or.inl hk), H6.out.2.2⟩
theorem rb_join_b2 {w : World} {ps : Nat} {S : St} {Y : Nat → Prop} (h : StOn w ps S Y) (hi : Inv S) (tu : Bool) (m t low : Nat) (_ : m < 18446744073709551616) (ht : t < 18446744073709551616) (hw : low < 18446744073709551616) (d : Nat) (hd : d ≤ 200) (h200 : d ≠ 200) (hr : redT S t = false) (hb : blackT S t ≠ blackT S low) {x1 : Nat} {S1 S2 : St} (hx1 : x1 < 18446744073709551616) (hi1 : Inv S1) (hi2 : Inv S2)
 (cr : ∀ (W : World) (Z : Nat → Prop), StOn W ps S Z → Calls Tryz.prog 250 #[jnV ps tu, .int .u64 (sidesT S tu t).2, .int .u64 m, .int .u64 low, .int .i64 ((d : Int) + 1)] W fun e w' => e = .returned (.int .u64 x1) ∧ StOn w' ps S1 Z ∧ Keep Z W w')
 (hp : putJ S1 tu t (sidesT S tu t).1 x1 (redT S t) = some S2) (hf : redT S2 x1 = true) (hg : redT S2 (sidesT S2 tu x1).2 = false) :
 Calls Tryz.prog 250 #[jnV ps tu, .int .u64 t, .int .u64 m, .int .u64 low, .int .i64 d] w fun e w' => e = .returned (.int .u64 t) ∧ StOn w' ps S2 Y ∧ Keep Y w w' := by
 have hso := sides_lt h tu t
 unfold jnV at cr ⊢
 have hrt := fun W (hW : StOn W ps S (fun k => Y k ∨ (w.heap.size ≤ k ∧ k < w.heap.size + 1))) => rb_red hW hi t ht
 have hst := fun W (hW : StOn W ps S (fun k => Y k ∨ (w.heap.size ≤ k ∧ k < w.heap.size + 1))) => rb_sides hW hi tu t ht
 have cp := fun W (hW : StOn W ps S1 (fun k => Y k ∨ (w.heap.size ≤ k ∧ k < w.heap.size + 1))) => rb_jput hW hi1 tu t (sidesT S tu t).1 x1 (redT S t) ht hso.1 hx1 hp
 have hbt := fun W (hW : StOn W ps S (fun k => Y k ∨ (w.heap.size ≤ k ∧ k < w.heap.size + 1))) => rb_black hW hi t ht
 have hbl := fun W (hW : StOn W ps S (fun k => Y k ∨ (w.heap.size ≤ k ∧ k < w.heap.size + 1))) => rb_black hW hi low hw
 have hrx := fun W (hW : StOn W ps S2 (fun k => Y k ∨ (w.heap.size ≤ k ∧ k < w.heap.size + 1))) => rb_red hW hi2 x1 hx1
 have hsx := fun W (hW : StOn W ps S2 (fun k => Y k ∨ (w.heap.size ≤ k ∧ k < w.heap.size + 1))) => rb_sides hW hi2 tu x1 hx1
 have hrb := fun W (hW : StOn W ps S2 (fun k => Y k ∨ (w.heap.size ≤ k ∧ k < w.heap.size + 1))) => rb_red hW hi2 (sidesT S2 tu x1).2 (sides_lt hW tu x1).2
 have cr := fun W (hW : StOn W ps S (fun k => Y k ∨ (w.heap.size ≤ k ∧ k < w.heap.size + 1))) => cr W _ hW
 try unfold jnV at hst
 try unfold jnV at cp
 try unfold jnV at hsx
 rw [hr] at hrt cp
 rw [hf] at hrx
 have hq2 : (((blackT S t : Nat) : Int) == (blackT S low : Nat)) = false := by simp; omega
 generalize blackT S t = bk1 at *
 generalize blackT S low = bk2 at *
 rw [hg] at hrb
 obtain ⟨⟨oth, own⟩, hst0⟩ : ∃ r, sidesT S tu t = r := ⟨_, rfl⟩
 rw [hst0] at hst cp cr
 simp only at hst cp cr
 obtain ⟨⟨sa, sb⟩, hst1⟩ : ∃ r, sidesT S2 tu x1 = r := ⟨_, rfl⟩
 rw [hst1] at hsx hrb
 simp only at hsx hrb
 have hq : ((d : Int) == 200) = false := by simp; omega
 have hdw : IntKind.i64.wrap ((d : Int) + 1) = (d : Int) + 1 := IntWalk.i64_in _ (by omega)
 have q0 := heap_alloc_new w (.cells #[PV ps, .bool tu] 324)
 have B0 := (Below.refl w.heap.size w).alloc (Nat.le_refl _) (.cells #[PV ps, .bool tu] 324)
 have sz0 : (w.alloc (.cells #[PV ps, .bool tu] 324)).heap.size = w.heap.size + 1 := by simp
 have z0 := h.wide B0
 rw [sz0] at z0
 have k0 : Keep Y w (w.alloc (.cells #[PV ps, .bool tu] 324)) := Keep.of_below B0 h.yl
 have lt0 : w.heap.size < (w.alloc (.cells #[PV ps, .bool tu] 324)).heap.size := by omega
 have HG := kq9 hrt hst cp hbt hbl hrx hsx hrb cr
 clear hrt hst cp hbt hbl hrx hsx hrb cr hp hi hi1 hi2 lt0 sz0 hr h200 hst0 hso hb hf hg hst1
 have H0 := kq3 z0 q0 k0
 clear z0 q0 k0 B0 h
 go_enter Tryz.func250, Tryz.ntmps250
 go_wp2_with fail
 have sz1 : w.heap.size < (w.alloc (.cells #[PV ps, .bool tu] 324)).heap.size := by simp
 have hx0 : ∀ x : Keeps (Below (w.alloc (.cells #[PV ps, .bool tu] 324)).heap.size (w.alloc (.cells #[PV ps, .bool tu] 324))), x.to.cell? ⟨w.heap.size, 0, none⟩ = some (PV ps) := fun x => by rw [cell_of_block ((x.ok.block _ sz1).trans H0.out.2.1)]; rfl
 have a_hrt := fun x : Keeps (Below (w.alloc (.cells #[PV ps, .bool tu] 324)).heap.size (w.alloc (.cells #[PV ps, .bool tu] 324))) => Calls.keeps_below (HG.out.1 x.to (H0.out.1.below x.ok))
 have a_hbt := fun x : Keeps (Below (w.alloc (.cells #[PV ps, .bool tu] 324)).heap.size (w.alloc (.cells #[PV ps, .bool tu] 324))) => Calls.keeps_below (HG.out.2.2.2.1 x.to (H0.out.1.below x.ok))
 have a_hbl := fun x : Keeps (Below (w.alloc (.cells #[PV ps, .bool tu] 324)).heap.size (w.alloc (.cells #[PV ps, .bool tu] 324))) => Calls.keeps_below (HG.out.2.2.2.2.1 x.to (H0.out.1.below x.ok))
 generalize hW0 : w.alloc (.cells #[PV ps, .bool tu] 324) = W0 at *
 refine wp_region_keeps (Below W0.heap.size W0) (by kernel_rfl) (by kernel_rfl) (Below.refl _ _).drew (fun _ => ?_)
 repeat (first | go_big_quiet_skip | (go_big_quiet_want; go_big_quiet_op; first | go_big_quiet_on | (apply Exists.intro; refine ⟨fun x => ?_, ?_⟩; (· first | with_reducible exact a_hrt x | with_reducible exact a_hbt x | with_reducible exact a_hbl x); go_big_quiet_on)))
 refine wpQuiet_nil ?_
 rintro _ ⟨v, rfl⟩
 have rr := (v.ok.block w.heap.size sz1).trans H0.out.2.1
 have hs := H0.out.1.below v.ok
 have hk := H0.out.2.2.trans ((H0.out.1.keep v.ok).mono (fun k hk => Or.inl hk))
 obtain ⟨w1, hw1⟩ : ∃ w1, v.to = w1 := ⟨_, rfl⟩
 rw [hw1] at rr hs hk ⊢
 clear hw1 v hx0 a_hrt a_hbt a_hbl
 obtain ⟨c0, c1⟩ := cells2 rr
 have H1 := kq3 hs rr hk
 clear rr hs hk
 go_wp2_with fail
 clear c0 c1
 refine (HG.out.2.1 _ H1.out.1).mono ?_
 rintro e w2 ⟨rfl, hb⟩
 have rr := (hb.block w.heap.size (gl H1.out.2.1)).trans H1.out.2.1
 have hs := H1.out.1.below hb
 have hk := H1.out.2.2.trans ((H1.out.1.keep hb).mono (fun k hk => Or.inl hk))
 obtain ⟨c0, c1⟩ := cells2 rr
 have H2 := kq3 hs rr hk
 clear hb rr hs hk
 go_wp2_with fail
 clear c0 c1
 refine (HG.out.1 _ H2.out.1).mono ?_
 rintro e w3 ⟨rfl, hb⟩
 have rr := (hb.block w.heap.size (gl H2.out.2.1)).trans H2.out.2.1
 have hs := H2.out.1.below hb
 have hk := H2.out.2.2.trans ((H2.out.1.keep hb).mono (fun k hk => Or.inl hk))
 obtain ⟨c0, c1⟩ := cells2 rr
 have H3 := kq3 hs rr hk
 clear hb rr hs hk
 go_wp2_with fail
 clear c0 c1
 refine (HG.out.2.2.2.2.2.2.2.2 _ H3.out.1).mono ?_
 rintro e w4 ⟨rfl, hs, hkz⟩
 have rr := (hkz.block w.heap.size (Or.inr ⟨Nat.le_refl _, Nat.lt_succ_self _⟩)).trans H3.out.2.1
 have hk := H3.out.2.2.trans (hkz.mono (fun k hk => Or.inl hk))
 obtain ⟨c0, c1⟩ := cells2 rr
 have H4 := kq3 hs rr hk
 clear hkz rr hs hk
 go_wp2_with fail
 clear c0 c1
 refine (HG.out.2.2.1 _ H4.out.1).mono ?_
 rintro e w5 ⟨rfl, hs, hkz⟩
 have rr := (hkz.block w.heap.size (Or.inr ⟨Nat.le_refl _, Nat.lt_succ_self _⟩)).trans H4.out.2.1
 have hk := H4.out.2.2.trans (hkz.mono (fun k hk => Or.inl hk))
 obtain ⟨c0, c1⟩ := cells2 rr
 have H5 := kq3 hs rr hk
 clear hkz rr hs hk
 go_wp2_with fail
 clear c0 c1
 refine (HG.out.2.2.2.2.2.1 _ H5.out.1).mono ?_
 rintro e w6 ⟨rfl, hb⟩
 have rr := (hb.block w.heap.size (gl H5.out.2.1)).trans H5.out.2.1
 have hs := H5.out.1.below hb
 have hk := H5.out.2.2.trans ((H5.out.1.keep hb).mono (fun k hk => Or.inl hk))
 obtain ⟨c0, c1⟩ := cells2 rr
 have H6 := kq3 hs rr hk
 clear hb rr hs hk
 go_wp2_with fail
 clear c0 c1
 refine (HG.out.2.2.2.2.2.2.1 _ H6.out.1).mono ?_
 rintro e w7 ⟨rfl, hb⟩
 have rr := (hb.block w.heap.size (gl H6.out.2.1)).trans H6.out.2.1
 have hs := H6.out.1.below hb
 have hk := H6.out.2.2.trans ((H6.out.1.keep hb).mono (fun k hk => Or.inl hk))
 obtain ⟨c0, c1⟩ := cells2 rr
 have H7 := kq3 hs rr hk
 clear hb rr hs hk
 go_wp2_with fail
 clear c0 c1
 refine (HG.out.2.2.2.2.2.2.2.1 _ H7.out.1).mono ?_
 rintro e w8 ⟨rfl, hb⟩
 have rr := (hb.block w.heap.size (gl H7.out.2.1)).trans H7.out.2.1
 have hs := H7.out.1.below hb
 have hk := H7.out.2.2.trans ((H7.out.1.keep hb).mono (fun k hk => Or.inl hk))
 obtain ⟨c0, c1⟩ := cells2 rr
 have H8 := kq3 hs rr hk
 clear hb rr hs hk
 go_wp2_with fail
 clear c0 c1
 go_ret
 exact ⟨rfl, H8.out.1.mono (fun k hk => Or.inl hk), H8.out.2.2⟩
theorem rb_join_b3 {w : World} {ps : Nat} {S : St} {Y : Nat → Prop} (h : StOn w ps S Y) (hi : Inv S) (tu : Bool) (m t low : Nat) (_ : m < 18446744073709551616) (ht : t < 18446744073709551616) (hw : low < 18446744073709551616) (d : Nat) (hd : d ≤ 200) (h200 : d ≠ 200) (hr : redT S t = false) (hb : blackT S t ≠ blackT S low) {x1 : Nat} {S1 S2 : St} (hx1 : x1 < 18446744073709551616) (hi1 : Inv S1) (hi2 : Inv S2)
 (cr : ∀ (W : World) (Z : Nat → Prop), StOn W ps S Z → Calls Tryz.prog 250 #[jnV ps tu, .int .u64 (sidesT S tu t).2, .int .u64 m, .int .u64 low, .int .i64 ((d : Int) + 1)] W fun e w' => e = .returned (.int .u64 x1) ∧ StOn w' ps S1 Z ∧ Keep Z W w')
 (hp : putJ S1 tu t (sidesT S tu t).1 x1 (redT S t) = some S2) (hf : redT S2 x1 = true) (hg : redT S2 (sidesT S2 tu x1).2 = true) {S3 S4 S5 : St} (hp3 : putJ S2 tu (sidesT S2 tu x1).2 (sidesT S2 tu (sidesT S2 tu x1).2).1 (sidesT S2 tu (sidesT S2 tu x1).2).2 false = some S3)
 (hp4 : putJ S3 tu t (sidesT S tu t).1 (sidesT S2 tu x1).1 false = some S4) (hp5 : putJ S4 tu x1 t (sidesT S2 tu x1).2 true = some S5) :
 Calls Tryz.prog 250 #[jnV ps tu, .int .u64 t, .int .u64 m, .int .u64 low, .int .i64 d] w fun e w' => e = .returned (.int .u64 x1) ∧ StOn w' ps S5 Y ∧ Keep Y w w' := by
 have hso := sides_lt h tu t
 unfold jnV at cr ⊢
 have hi3 := putJ_inv hi2 hp3
 have hi4 := putJ_inv hi3 hp4
 have hrt := fun W (hW : StOn W ps S (fun k => Y k ∨ (w.heap.size ≤ k ∧ k < w.heap.size + 1))) => rb_red hW hi t ht
 have hst := fun W (hW : StOn W ps S (fun k => Y k ∨ (w.heap.size ≤ k ∧ k < w.heap.size + 1))) => rb_sides hW hi tu t ht
 have cp := fun W (hW : StOn W ps S1 (fun k => Y k ∨ (w.heap.size ≤ k ∧ k < w.heap.size + 1))) => rb_jput hW hi1 tu t (sidesT S tu t).1 x1 (redT S t) ht hso.1 hx1 hp
 have hbt := fun W (hW : StOn W ps S (fun k => Y k ∨ (w.heap.size ≤ k ∧ k < w.heap.size + 1))) => rb_black hW hi t ht
 have hbl := fun W (hW : StOn W ps S (fun k => Y k ∨ (w.heap.size ≤ k ∧ k < w.heap.size + 1))) => rb_black hW hi low hw
 have hrx := fun W (hW : StOn W ps S2 (fun k => Y k ∨ (w.heap.size ≤ k ∧ k < w.heap.size + 1))) => rb_red hW hi2 x1 hx1
 have hsx := fun W (hW : StOn W ps S2 (fun k => Y k ∨ (w.heap.size ≤ k ∧ k < w.heap.size + 1))) => rb_sides hW hi2 tu x1 hx1
 have hrb := fun W (hW : StOn W ps S2 (fun k => Y k ∨ (w.heap.size ≤ k ∧ k < w.heap.size + 1))) => rb_red hW hi2 (sidesT S2 tu x1).2 (sides_lt hW tu x1).2
 have hsb := fun W (hW : StOn W ps S2 (fun k => Y k ∨ (w.heap.size ≤ k ∧ k < w.heap.size + 1))) => rb_sides hW hi2 tu (sidesT S2 tu x1).2 (sides_lt hW tu x1).2
 have cp3 := fun W (hW : StOn W ps S2 (fun k => Y k ∨ (w.heap.size ≤ k ∧ k < w.heap.size + 1))) => And.intro (sides_lt hW tu x1) (rb_jput hW hi2 tu (sidesT S2 tu x1).2 (sidesT S2 tu (sidesT S2 tu x1).2).1 (sidesT S2 tu (sidesT S2 tu x1).2).2 false (sides_lt hW tu x1).2 (sides_lt hW tu _).1 (sides_lt hW tu _).2 hp3)
 have cp4 := fun W (hW : StOn W ps S3 (fun k => Y k ∨ (w.heap.size ≤ k ∧ k < w.heap.size + 1))) => fun (q : (sidesT S2 tu x1).1 < 18446744073709551616) => rb_jput hW hi3 tu t (sidesT S tu t).1 (sidesT S2 tu x1).1 false ht hso.1 q hp4
 have cp5 := fun W (hW : StOn W ps S4 (fun k => Y k ∨ (w.heap.size ≤ k ∧ k < w.heap.size + 1))) => fun (q : (sidesT S2 tu x1).2 < 18446744073709551616) => rb_jput hW hi4 tu x1 t (sidesT S2 tu x1).2 true hx1 ht q hp5
 have cr := fun W (hW : StOn W ps S (fun k => Y k ∨ (w.heap.size ≤ k ∧ k < w.heap.size + 1))) => cr W _ hW
 try unfold jnV at hst
 try unfold jnV at cp
 try unfold jnV at hsx
 try unfold jnV at hsb
 try unfold jnV at cp3
 try unfold jnV at cp4
 try unfold jnV at cp5
 rw [hr] at hrt cp
 rw [hf] at hrx
 have hq2 : (((blackT S t : Nat) : Int) == (blackT S low : Nat)) = false := by simp; omega
 generalize blackT S t = bk1 at *
 generalize blackT S low = bk2 at *
 rw [hg] at hrb
 obtain ⟨⟨oth, own⟩, hst0⟩ : ∃ r, sidesT S tu t = r := ⟨_, rfl⟩
 rw [hst0] at hst cp cr cp4
 simp only at hst cp cr cp4
 obtain ⟨⟨sa, sb⟩, hst1⟩ : ∃ r, sidesT S2 tu x1 = r := ⟨_, rfl⟩
 rw [hst1] at hsx hrb hsb cp3 cp4 cp5
 simp only at hsx hrb hsb cp3 cp4 cp5
 obtain ⟨⟨sc, sd⟩, hst2⟩ : ∃ r, sidesT S2 tu sb = r := ⟨_, rfl⟩
 rw [hst2] at hsb cp3
 simp only at hsb cp3
 have hq : ((d : Int) == 200) = false := by simp; omega
 have hdw : IntKind.i64.wrap ((d : Int) + 1) = (d : Int) + 1 := IntWalk.i64_in _ (by omega)
 have q0 := heap_alloc_new w (.cells #[PV ps, .bool tu] 324)
 have B0 := (Below.refl w.heap.size w).alloc (Nat.le_refl _) (.cells #[PV ps, .bool tu] 324)
 have sz0 : (w.alloc (.cells #[PV ps, .bool tu] 324)).heap.size = w.heap.size + 1 := by simp
 have z0 := h.wide B0
 rw [sz0] at z0
 have k0 : Keep Y w (w.alloc (.cells #[PV ps, .bool tu] 324)) := Keep.of_below B0 h.yl
 have lt0 : w.heap.size < (w.alloc (.cells #[PV ps, .bool tu] 324)).heap.size := by omega
 have HG := Lib.hid (And.intro hrt (And.intro hst (And.intro cp (And.intro hbt (And.intro hbl (And.intro hrx (And.intro hsx (And.intro hrb (And.intro hsb (And.intro cp3 (And.intro cp4 (And.intro cp5 cr))))))))))))
 clear hrt hst cp hbt hbl hrx hsx hrb hsb cp3 cp4 cp5 cr hp hi hi1 hi2 lt0 sz0 hr h200 hst0 hso hb hf hg hst1 hst2 hp3 hp4 hp5 hi3 hi4
 have H0 := kq3 z0 q0 k0
 clear z0 q0 k0 B0 h
 go_enter Tryz.func250, Tryz.ntmps250
 go_wp2_with fail
 have sz1 : w.heap.size < (w.alloc (.cells #[PV ps, .bool tu] 324)).heap.size := by simp
 have hx0 : ∀ x : Keeps (Below (w.alloc (.cells #[PV ps, .bool tu] 324)).heap.size (w.alloc (.cells #[PV ps, .bool tu] 324))), x.to.cell? ⟨w.heap.size, 0, none⟩ = some (PV ps) := fun x => by rw [cell_of_block ((x.ok.block _ sz1).trans H0.out.2.1)]; rfl
 have a_hrt := fun x : Keeps (Below (w.alloc (.cells #[PV ps, .bool tu] 324)).heap.size (w.alloc (.cells #[PV ps, .bool tu] 324))) => Calls.keeps_below (HG.out.1 x.to (H0.out.1.below x.ok))
 have a_hbt := fun x : Keeps (Below (w.alloc (.cells #[PV ps, .bool tu] 324)).heap.size (w.alloc (.cells #[PV ps, .bool tu] 324))) => Calls.keeps_below (HG.out.2.2.2.1 x.to (H0.out.1.below x.ok))
 have a_hbl := fun x : Keeps (Below (w.alloc (.cells #[PV ps, .bool tu] 324)).heap.size (w.alloc (.cells #[PV ps, .bool tu] 324))) => Calls.keeps_below (HG.out.2.2.2.2.1 x.to (H0.out.1.below x.ok))
 generalize hW0 : w.alloc (.cells #[PV ps, .bool tu] 324) = W0 at *
 refine wp_region_keeps (Below W0.heap.size W0) (by kernel_rfl) (by kernel_rfl) (Below.refl _ _).drew (fun _ => ?_)
 repeat (first | go_big_quiet_skip | (go_big_quiet_want; go_big_quiet_op; first | go_big_quiet_on | (apply Exists.intro; refine ⟨fun x => ?_, ?_⟩; (· first | with_reducible exact a_hrt x | with_reducible exact a_hbt x | with_reducible exact a_hbl x); go_big_quiet_on)))
 refine wpQuiet_nil ?_
 rintro _ ⟨v, rfl⟩
 have rr := (v.ok.block w.heap.size sz1).trans H0.out.2.1
 have hs := H0.out.1.below v.ok
 have hk := H0.out.2.2.trans ((H0.out.1.keep v.ok).mono (fun k hk => Or.inl hk))
 obtain ⟨w1, hw1⟩ : ∃ w1, v.to = w1 := ⟨_, rfl⟩
 rw [hw1] at rr hs hk ⊢
 clear hw1 v hx0 a_hrt a_hbt a_hbl
 obtain ⟨c0, c1⟩ := cells2 rr
 have H1 := kq3 hs rr hk
 clear rr hs hk
 go_wp2_with fail
 clear c0 c1
 refine (HG.out.2.1 _ H1.out.1).mono ?_
 rintro e w2 ⟨rfl, hb⟩
 have rr := (hb.block w.heap.size (gl H1.out.2.1)).trans H1.out.2.1
 have hs := H1.out.1.below hb
 have hk := H1.out.2.2.trans ((H1.out.1.keep hb).mono (fun k hk => Or.inl hk))
 obtain ⟨c0, c1⟩ := cells2 rr
 have H2 := kq3 hs rr hk
 clear hb rr hs hk
 go_wp2_with fail
 clear c0 c1
 refine (HG.out.1 _ H2.out.1).mono ?_
 rintro e w3 ⟨rfl, hb⟩
 have rr := (hb.block w.heap.size (gl H2.out.2.1)).trans H2.out.2.1
 have hs := H2.out.1.below hb
 have hk := H2.out.2.2.trans ((H2.out.1.keep hb).mono (fun k hk => Or.inl hk))
 obtain ⟨c0, c1⟩ := cells2 rr
 have H3 := kq3 hs rr hk
 clear hb rr hs hk
 go_wp2_with fail
 clear c0 c1
 refine (HG.out.2.2.2.2.2.2.2.2.2.2.2.2 _ H3.out.1).mono ?_
 rintro e w4 ⟨rfl, hs, hkz⟩
 have rr := (hkz.block w.heap.size (Or.inr ⟨Nat.le_refl _, Nat.lt_succ_self _⟩)).trans H3.out.2.1
 have hk := H3.out.2.2.trans (hkz.mono (fun k hk => Or.inl hk))
 obtain ⟨c0, c1⟩ := cells2 rr
 have H4 := kq3 hs rr hk
 clear hkz rr hs hk
 go_wp2_with fail
 clear c0 c1
 refine (HG.out.2.2.1 _ H4.out.1).mono ?_
 rintro e w5 ⟨rfl, hs, hkz⟩
 have rr := (hkz.block w.heap.size (Or.inr ⟨Nat.le_refl _, Nat.lt_succ_self _⟩)).trans H4.out.2.1
 have hk := H4.out.2.2.trans (hkz.mono (fun k hk => Or.inl hk))
 obtain ⟨c0, c1⟩ := cells2 rr
 have H5 := kq3 hs rr hk
 clear hkz rr hs hk
 go_wp2_with fail
 clear c0 c1
 refine (HG.out.2.2.2.2.2.1 _ H5.out.1).mono ?_
 rintro e w6 ⟨rfl, hb⟩
 have rr := (hb.block w.heap.size (gl H5.out.2.1)).trans H5.out.2.1
 have hs := H5.out.1.below hb
 have hk := H5.out.2.2.trans ((H5.out.1.keep hb).mono (fun k hk => Or.inl hk))
 obtain ⟨c0, c1⟩ := cells2 rr
 have H6 := kq3 hs rr hk
 clear hb rr hs hk
 go_wp2_with fail
 clear c0 c1
 refine (HG.out.2.2.2.2.2.2.1 _ H6.out.1).mono ?_
 rintro e w7 ⟨rfl, hb⟩
 have rr := (hb.block w.heap.size (gl H6.out.2.1)).trans H6.out.2.1
 have hs := H6.out.1.below hb
 have hk := H6.out.2.2.trans ((H6.out.1.keep hb).mono (fun k hk => Or.inl hk))
 obtain ⟨c0, c1⟩ := cells2 rr
 have H7 := kq3 hs rr hk
 clear hb rr hs hk
 go_wp2_with fail
 clear c0 c1
 refine (HG.out.2.2.2.2.2.2.2.1 _ H7.out.1).mono ?_
 rintro e w8 ⟨rfl, hb⟩
 have rr := (hb.block w.heap.size (gl H7.out.2.1)).trans H7.out.2.1
 have hs := H7.out.1.below hb
 have hk := H7.out.2.2.trans ((H7.out.1.keep hb).mono (fun k hk => Or.inl hk))
 obtain ⟨c0, c1⟩ := cells2 rr
 have H8 := kq3 hs rr hk
 clear hb rr hs hk
 go_wp2_with fail
 clear c0 c1
 refine (HG.out.2.2.2.2.2.2.2.2.1 _ H8.out.1).mono ?_
 rintro e w9 ⟨rfl, hb⟩
 have rr := (hb.block w.heap.size (gl H8.out.2.1)).trans H8.out.2.1
 have hs := H8.out.1.below hb
 have hk := H8.out.2.2.trans ((H8.out.1.keep hb).mono (fun k hk => Or.inl hk))
 obtain ⟨c0, c1⟩ := cells2 rr
 have H9 := kq3 hs rr hk
 clear hb rr hs hk
 go_wp2_with fail
 clear c0 c1
 obtain ⟨qb, q3⟩ := HG.out.2.2.2.2.2.2.2.2.2.1 _ H9.out.1
 refine q3.mono ?_
 clear q3
 rintro e w10 ⟨rfl, hs, hkz⟩
 have rr := (hkz.block w.heap.size (Or.inr ⟨Nat.le_refl _, Nat.lt_succ_self _⟩)).trans H9.out.2.1
 have hk := H9.out.2.2.trans (hkz.mono (fun k hk => Or.inl hk))
 obtain ⟨c0, c1⟩ := cells2 rr
 have H10 := kq3 hs rr hk
 have HQ := Lib.hid qb
 clear hkz rr hs hk qb
 go_wp2_with fail
 clear c0 c1
 refine (HG.out.2.2.2.2.2.2.2.2.2.2.1 _ H10.out.1 HQ.out.1).mono ?_
 rintro e w11 ⟨rfl, hs, hkz⟩
 have rr := (hkz.block w.heap.size (Or.inr ⟨Nat.le_refl _, Nat.lt_succ_self _⟩)).trans H10.out.2.1
 have hk := H10.out.2.2.trans (hkz.mono (fun k hk => Or.inl hk))
 obtain ⟨c0, c1⟩ := cells2 rr
 have H11 := kq3 hs rr hk
 clear hkz rr hs hk
 go_wp2_with fail
 clear c0 c1
 refine (HG.out.2.2.2.2.2.2.2.2.2.2.2.1 _ H11.out.1 HQ.out.2).mono ?_
 rintro e w12 ⟨rfl, hs, hkz⟩
 have rr := (hkz.block w.heap.size (Or.inr ⟨Nat.le_refl _, Nat.lt_succ_self _⟩)).trans H11.out.2.1
 have hk := H11.out.2.2.trans (hkz.mono (fun k hk => Or.inl hk))
 obtain ⟨c0, c1⟩ := cells2 rr
 have H12 := kq3 hs rr hk
 clear hkz rr hs hk
 go_wp2_with fail
 clear c0 c1
 go_ret
 exact ⟨rfl, H12.out.1.mono (fun k hk => Or.inl hk), H12.out.2.2⟩
theorem fixR_cases {tu : Bool} {S S' : St} {t other x y : Nat} {is : Bool} (h : fixR tu S t other x is = some (y, S')) :
 (is = true ∧ y = t ∧ S' = S) ∨ (is = false ∧ redT S x = false ∧ y = t ∧ S' = S) ∨ (is = false ∧ redT S x = true ∧ redT S (sidesT S tu x).2 = false ∧ y = t ∧ S' = S) ∨
 (is = false ∧ redT S x = true ∧ redT S (sidesT S tu x).2 = true ∧ y = x ∧ ∃ S3 S4, putJ S tu (sidesT S tu x).2 (sidesT S tu (sidesT S tu x).2).1 (sidesT S tu (sidesT S tu x).2).2 false = some S3 ∧ putJ S3 tu t other (sidesT S tu x).1 false = some S4 ∧ putJ S4 tu x t (sidesT S tu x).2 true = some S') := by
 unfold fixR at h
 cases is with
 | true =>
  rw [if_pos (Or.inl rfl)] at h
  injection h with h
  injection h with e1 e2
  exact Or.inl ⟨rfl, e1.symm, e2.symm⟩
 | false =>
  split at h
  · rename_i hc
    injection h with h
    injection h with e1 e2
    rcases hc with hc | hc
    · cases hc
    · exact Or.inr (Or.inl ⟨rfl, hc, e1.symm, e2.symm⟩)
  · rename_i hc
    have hx : redT S x = true := by simpa using hc
    split at h
    · rename_i hb
      injection h with h
      injection h with e1 e2
      exact Or.inr (Or.inr (Or.inl ⟨rfl, hx, hb, e1.symm, e2.symm⟩))
    · rename_i hb
      have hb : redT S (sidesT S tu x).2 = true := by simpa using hb
      split at h
      · cases h
      · rename_i S3 h3
        split at h
        · cases h
        · rename_i S4 h4
          obtain ⟨S5, h5, h6⟩ := Option.map_eq_some_iff.1 h
          injection h6 with e1 e2
          subst e1 e2
          exact Or.inr (Or.inr (Or.inr ⟨rfl, hx, hb, rfl, S3, S4, h3, h4, h5⟩))
theorem rb_join {ps : Nat} (tu : Bool) (m : Nat) (hm : m < 18446744073709551616) : ∀ (f d : Nat), d + f = 200 → ∀ {w : World} {S S' : St} {Y : Nat → Prop} {t low x : Nat}, StOn w ps S Y → Inv S → t < 18446744073709551616 → low < 18446744073709551616 →
 joinR tu m f S t low = some (x, S') →
 Calls Tryz.prog 250 #[jnV ps tu, .int .u64 t, .int .u64 m, .int .u64 low, .int .i64 d] w fun e w' => e = .returned (.int .u64 x) ∧ StOn w' ps S' Y ∧ Keep Y w w' := by
 intro f
 induction f with
 | zero =>
  intro d hd w S S' Y t low x h hi ht hw hj
  rw [joinR_zero] at hj
  obtain ⟨S1, h1, h2⟩ := Option.map_eq_some_iff.1 hj
  injection h2 with e1 e2
  subst e1 e2
  exact rb_join_deep h hi tu m t low hm ht hw d (by omega) (by omega) h1
 | succ f ih =>
  intro d hd w S S' Y t low x h hi ht hw hj
  rw [joinR_succ] at hj
  split at hj
  · rename_i hc
    obtain ⟨S1, h1, h2⟩ := Option.map_eq_some_iff.1 hj
    injection h2 with e1 e2
    subst e1 e2
    exact rb_join_stop h hi tu m t low hm ht hw d (by omega) (by omega) hc.1 hc.2 h1
  · rename_i hc
    split at hj
    · cases hj
    rename_i x1 S1 hj1
    split at hj
    · cases hj
    rename_i S2 hp
    obtain ⟨hj, -⟩ := chk_some hj
    obtain ⟨hi1, hx1⟩ := joinR_inv tu f hi hj1
    have hx1 := hx1 hm
    have hi2 := putJ_inv hi1 hp
    have cr := fun (W : World) (Z : Nat → Prop) (hW : StOn W ps S Z) => ih (d + 1) (by omega) hW hi (sides_lt h tu t).2 hw hj1
    rcases fixR_cases hj with ⟨c1, rfl, rfl⟩ | ⟨c1, c2, rfl, rfl⟩ | ⟨c1, c2, c3, rfl, rfl⟩ | ⟨c1, c2, c3, rfl, S3, S4, h3, h4, h5⟩
    · exact rb_join_red h hi tu m _ low hm ht hw d (by omega) (by omega) c1 hx1 hi1 hi2 cr hp
    · exact rb_join_b1 h hi tu m _ low hm ht hw d (by omega) (by omega) c1 (fun e => hc ⟨c1, e⟩) hx1 hi1 hi2 cr hp c2
    · exact rb_join_b2 h hi tu m _ low hm ht hw d (by omega) (by omega) c1 (fun e => hc ⟨c1, e⟩) hx1 hi1 hi2 cr hp c2 c3
    · exact rb_join_b3 h hi tu m t low hm ht hw d (by omega) (by omega) c1 (fun e => hc ⟨c1, e⟩) hx1 hi1 hi2 cr hp c2 c3 h3 h4 h5
theorem rb_top_red {w : World} {ps : Nat} {S S1 : St} {Y : Nat → Prop} (h : StOn w ps S Y) (hi : Inv S) (tu : Bool) (t m low : Nat) {x : Nat} (hm : m < 18446744073709551616) (ht : t < 18446744073709551616) (hw : low < 18446744073709551616) (hj : joinR tu m 200 S t low = some (x, S1)) (c1 : redT S1 x = true) (c2 : redT S1 (sidesT S1 tu x).2 = true) {S2 : St} (hp : putJ S1 tu x (sidesT S1 tu x).1 (sidesT S1 tu x).2 false = some S2) :
 Calls Tryz.prog 225 #[jnV ps tu, .int .u64 t, .int .u64 m, .int .u64 low] w fun e w' => e = .returned (.int .u64 x) ∧ StOn w' ps S2 Y ∧ Keep Y w w' := by
 obtain ⟨hi1, hx⟩ := joinR_inv tu 200 hi hj
 have hx := hx hm
 have cj := fun W (hW : StOn W ps S (fun k => Y k ∨ (w.heap.size ≤ k ∧ k < w.heap.size + 1))) => rb_join tu m hm 200 0 rfl hW hi ht hw hj
 have hsx := fun W (hW : StOn W ps S1 (fun k => Y k ∨ (w.heap.size ≤ k ∧ k < w.heap.size + 1))) => rb_sides hW hi1 tu x hx
 have hrx := fun W (hW : StOn W ps S1 (fun k => Y k ∨ (w.heap.size ≤ k ∧ k < w.heap.size + 1))) => rb_red hW hi1 x hx
 have hro := fun W (hW : StOn W ps S1 (fun k => Y k ∨ (w.heap.size ≤ k ∧ k < w.heap.size + 1))) => rb_red hW hi1 (sidesT S1 tu x).2 (sides_lt hW tu x).2
 have cp := fun W (hW : StOn W ps S1 (fun k => Y k ∨ (w.heap.size ≤ k ∧ k < w.heap.size + 1))) => rb_jput hW hi1 tu x (sidesT S1 tu x).1 (sidesT S1 tu x).2 false hx (sides_lt hW tu x).1 (sides_lt hW tu x).2 hp
 rw [c1] at hrx
 rw [c2] at hro
 unfold jnV at cj
 unfold jnV at hsx
 unfold jnV at cp
 unfold jnV
 obtain ⟨⟨sa, sb⟩, hst1⟩ : ∃ r, sidesT S1 tu x = r := ⟨_, rfl⟩
 rw [hst1] at hsx hro cp
 simp only at hsx hro cp
 have q0 := heap_alloc_new w (.cells #[PV ps, .bool tu] 324)
 have B0 := (Below.refl w.heap.size w).alloc (Nat.le_refl _) (.cells #[PV ps, .bool tu] 324)
 have sz0 : (w.alloc (.cells #[PV ps, .bool tu] 324)).heap.size = w.heap.size + 1 := by simp
 have z0 := h.wide B0
 rw [sz0] at z0
 have k0 : Keep Y w (w.alloc (.cells #[PV ps, .bool tu] 324)) := Keep.of_below B0 h.yl
 have lt0 : w.heap.size < (w.alloc (.cells #[PV ps, .bool tu] 324)).heap.size := by omega
 have HG := kq5 cj hsx hrx hro cp
 clear cj hsx hrx hro cp hi hi1 lt0 sz0 hst1 hj c1 c2 hp
 have c0 : (w.alloc (.cells #[PV ps, .bool tu] 324)).cell? ⟨w.heap.size, 0, none⟩ = some (PV ps) := by rw [cell_of_block q0]; rfl
 have c1 : (w.alloc (.cells #[PV ps, .bool tu] 324)).cell? ⟨w.heap.size, 1, none⟩ = some (.bool tu) := by rw [cell_of_block q0]; rfl
 have H0 := kq3 z0 q0 k0
 clear z0 q0 k0 B0 h
 go_enter Tryz.func225, Tryz.ntmps225
 go_wp2_with fail
 clear c0 c1
 refine (HG.out.1 _ H0.out.1).mono ?_
 rintro e w1 ⟨rfl, hs, hkz⟩
 have rr := (hkz.block w.heap.size (Or.inr ⟨Nat.le_refl _, Nat.lt_succ_self _⟩)).trans H0.out.2.1
 have hk := H0.out.2.2.trans (hkz.mono (fun k hk => Or.inl hk))
 obtain ⟨c0, c1⟩ := cells2 rr
 have H1 := kq3 hs rr hk
 clear hkz rr hs hk
 go_wp2_with fail
 clear c0 c1
 refine (HG.out.2.1 _ H1.out.1).mono ?_
 rintro e w2 ⟨rfl, hb⟩
 have rr := (hb.block w.heap.size (gl H1.out.2.1)).trans H1.out.2.1
 have hs := H1.out.1.below hb
 have hk := H1.out.2.2.trans ((H1.out.1.keep hb).mono (fun k hk => Or.inl hk))
 obtain ⟨c0, c1⟩ := cells2 rr
 have H2 := kq3 hs rr hk
 clear hb rr hs hk
 go_wp2_with fail
 clear c0 c1
 refine (HG.out.2.2.1 _ H2.out.1).mono ?_
 rintro e w3 ⟨rfl, hb⟩
 have rr := (hb.block w.heap.size (gl H2.out.2.1)).trans H2.out.2.1
 have hs := H2.out.1.below hb
 have hk := H2.out.2.2.trans ((H2.out.1.keep hb).mono (fun k hk => Or.inl hk))
 obtain ⟨c0, c1⟩ := cells2 rr
 have H3 := kq3 hs rr hk
 clear hb rr hs hk
 go_wp2_with fail
 clear c0 c1
 refine (HG.out.2.2.2.1 _ H3.out.1).mono ?_
 rintro e w4 ⟨rfl, hb⟩
 have rr := (hb.block w.heap.size (gl H3.out.2.1)).trans H3.out.2.1
 have hs := H3.out.1.below hb
 have hk := H3.out.2.2.trans ((H3.out.1.keep hb).mono (fun k hk => Or.inl hk))
 obtain ⟨c0, c1⟩ := cells2 rr
 have H4 := kq3 hs rr hk
 clear hb rr hs hk
 go_wp2_with fail
 clear c0 c1
 refine (HG.out.2.2.2.2 _ H4.out.1).mono ?_
 rintro e w5 ⟨rfl, hs, hkz⟩
 have rr := (hkz.block w.heap.size (Or.inr ⟨Nat.le_refl _, Nat.lt_succ_self _⟩)).trans H4.out.2.1
 have hk := H4.out.2.2.trans (hkz.mono (fun k hk => Or.inl hk))
 obtain ⟨c0, c1⟩ := cells2 rr
 have H5 := kq3 hs rr hk
 clear hkz rr hs hk
 go_wp2_with fail
 clear c0 c1
 go_ret
 exact ⟨rfl, H5.out.1.mono (fun k hk => Or.inl hk), H5.out.2.2⟩
theorem rb_top_half {w : World} {ps : Nat} {S S1 : St} {Y : Nat → Prop} (h : StOn w ps S Y) (hi : Inv S) (tu : Bool) (t m low : Nat) {x : Nat} (hm : m < 18446744073709551616) (ht : t < 18446744073709551616) (hw : low < 18446744073709551616) (hj : joinR tu m 200 S t low = some (x, S1)) (c1 : redT S1 x = true) (c2 : redT S1 (sidesT S1 tu x).2 = false) :
 Calls Tryz.prog 225 #[jnV ps tu, .int .u64 t, .int .u64 m, .int .u64 low] w fun e w' => e = .returned (.int .u64 x) ∧ StOn w' ps S1 Y ∧ Keep Y w w' := by
 obtain ⟨hi1, hx⟩ := joinR_inv tu 200 hi hj
 have hx := hx hm
 have cj := fun W (hW : StOn W ps S (fun k => Y k ∨ (w.heap.size ≤ k ∧ k < w.heap.size + 1))) => rb_join tu m hm 200 0 rfl hW hi ht hw hj
 have hsx := fun W (hW : StOn W ps S1 (fun k => Y k ∨ (w.heap.size ≤ k ∧ k < w.heap.size + 1))) => rb_sides hW hi1 tu x hx
 have hrx := fun W (hW : StOn W ps S1 (fun k => Y k ∨ (w.heap.size ≤ k ∧ k < w.heap.size + 1))) => rb_red hW hi1 x hx
 have hro := fun W (hW : StOn W ps S1 (fun k => Y k ∨ (w.heap.size ≤ k ∧ k < w.heap.size + 1))) => rb_red hW hi1 (sidesT S1 tu x).2 (sides_lt hW tu x).2
 rw [c1] at hrx
 rw [c2] at hro
 unfold jnV at cj
 unfold jnV at hsx
 unfold jnV
 obtain ⟨⟨sa, sb⟩, hst1⟩ : ∃ r, sidesT S1 tu x = r := ⟨_, rfl⟩
 rw [hst1] at hsx hro
 simp only at hsx hro
 have q0 := heap_alloc_new w (.cells #[PV ps, .bool tu] 324)
 have B0 := (Below.refl w.heap.size w).alloc (Nat.le_refl _) (.cells #[PV ps, .bool tu] 324)
 have sz0 : (w.alloc (.cells #[PV ps, .bool tu] 324)).heap.size = w.heap.size + 1 := by simp
 have z0 := h.wide B0
 rw [sz0] at z0
 have k0 : Keep Y w (w.alloc (.cells #[PV ps, .bool tu] 324)) := Keep.of_below B0 h.yl
 have lt0 : w.heap.size < (w.alloc (.cells #[PV ps, .bool tu] 324)).heap.size := by omega
 have HG := kq4 cj hsx hrx hro
 clear cj hsx hrx hro hi hi1 lt0 sz0 hst1 hj c1 c2
 have c0 : (w.alloc (.cells #[PV ps, .bool tu] 324)).cell? ⟨w.heap.size, 0, none⟩ = some (PV ps) := by rw [cell_of_block q0]; rfl
 have c1 : (w.alloc (.cells #[PV ps, .bool tu] 324)).cell? ⟨w.heap.size, 1, none⟩ = some (.bool tu) := by rw [cell_of_block q0]; rfl
 have H0 := kq3 z0 q0 k0
 clear z0 q0 k0 B0 h
 go_enter Tryz.func225, Tryz.ntmps225
 go_wp2_with fail
 clear c0 c1
 refine (HG.out.1 _ H0.out.1).mono ?_
 rintro e w1 ⟨rfl, hs, hkz⟩
 have rr := (hkz.block w.heap.size (Or.inr ⟨Nat.le_refl _, Nat.lt_succ_self _⟩)).trans H0.out.2.1
 have hk := H0.out.2.2.trans (hkz.mono (fun k hk => Or.inl hk))
 obtain ⟨c0, c1⟩ := cells2 rr
 have H1 := kq3 hs rr hk
 clear hkz rr hs hk
 go_wp2_with fail
 clear c0 c1
 refine (HG.out.2.1 _ H1.out.1).mono ?_
 rintro e w2 ⟨rfl, hb⟩
 have rr := (hb.block w.heap.size (gl H1.out.2.1)).trans H1.out.2.1
 have hs := H1.out.1.below hb
 have hk := H1.out.2.2.trans ((H1.out.1.keep hb).mono (fun k hk => Or.inl hk))
 obtain ⟨c0, c1⟩ := cells2 rr
 have H2 := kq3 hs rr hk
 clear hb rr hs hk
 go_wp2_with fail
 clear c0 c1
 refine (HG.out.2.2.1 _ H2.out.1).mono ?_
 rintro e w3 ⟨rfl, hb⟩
 have rr := (hb.block w.heap.size (gl H2.out.2.1)).trans H2.out.2.1
 have hs := H2.out.1.below hb
 have hk := H2.out.2.2.trans ((H2.out.1.keep hb).mono (fun k hk => Or.inl hk))
 obtain ⟨c0, c1⟩ := cells2 rr
 have H3 := kq3 hs rr hk
 clear hb rr hs hk
 go_wp2_with fail
 clear c0 c1
 refine (HG.out.2.2.2 _ H3.out.1).mono ?_
 rintro e w4 ⟨rfl, hb⟩
 have rr := (hb.block w.heap.size (gl H3.out.2.1)).trans H3.out.2.1
 have hs := H3.out.1.below hb
 have hk := H3.out.2.2.trans ((H3.out.1.keep hb).mono (fun k hk => Or.inl hk))
 obtain ⟨c0, c1⟩ := cells2 rr
 have H4 := kq3 hs rr hk
 clear hb rr hs hk
 go_wp2_with fail
 clear c0 c1
 go_ret
 exact ⟨rfl, H4.out.1.mono (fun k hk => Or.inl hk), H4.out.2.2⟩
theorem rb_top_black {w : World} {ps : Nat} {S S1 : St} {Y : Nat → Prop} (h : StOn w ps S Y) (hi : Inv S) (tu : Bool) (t m low : Nat) {x : Nat} (hm : m < 18446744073709551616) (ht : t < 18446744073709551616) (hw : low < 18446744073709551616) (hj : joinR tu m 200 S t low = some (x, S1)) (c1 : redT S1 x = false) :
 Calls Tryz.prog 225 #[jnV ps tu, .int .u64 t, .int .u64 m, .int .u64 low] w fun e w' => e = .returned (.int .u64 x) ∧ StOn w' ps S1 Y ∧ Keep Y w w' := by
 obtain ⟨hi1, hx⟩ := joinR_inv tu 200 hi hj
 have hx := hx hm
 have cj := fun W (hW : StOn W ps S (fun k => Y k ∨ (w.heap.size ≤ k ∧ k < w.heap.size + 1))) => rb_join tu m hm 200 0 rfl hW hi ht hw hj
 have hsx := fun W (hW : StOn W ps S1 (fun k => Y k ∨ (w.heap.size ≤ k ∧ k < w.heap.size + 1))) => rb_sides hW hi1 tu x hx
 have hrx := fun W (hW : StOn W ps S1 (fun k => Y k ∨ (w.heap.size ≤ k ∧ k < w.heap.size + 1))) => rb_red hW hi1 x hx
 rw [c1] at hrx
 unfold jnV at cj
 unfold jnV at hsx
 unfold jnV
 obtain ⟨⟨sa, sb⟩, hst1⟩ : ∃ r, sidesT S1 tu x = r := ⟨_, rfl⟩
 rw [hst1] at hsx
 simp only at hsx
 have q0 := heap_alloc_new w (.cells #[PV ps, .bool tu] 324)
 have B0 := (Below.refl w.heap.size w).alloc (Nat.le_refl _) (.cells #[PV ps, .bool tu] 324)
 have sz0 : (w.alloc (.cells #[PV ps, .bool tu] 324)).heap.size = w.heap.size + 1 := by simp
 have z0 := h.wide B0
 rw [sz0] at z0
 have k0 : Keep Y w (w.alloc (.cells #[PV ps, .bool tu] 324)) := Keep.of_below B0 h.yl
 have lt0 : w.heap.size < (w.alloc (.cells #[PV ps, .bool tu] 324)).heap.size := by omega
 have HG := kq3 cj hsx hrx
 clear cj hsx hrx hi hi1 lt0 sz0 hst1 hj c1
 have c0 : (w.alloc (.cells #[PV ps, .bool tu] 324)).cell? ⟨w.heap.size, 0, none⟩ = some (PV ps) := by rw [cell_of_block q0]; rfl
 have c1 : (w.alloc (.cells #[PV ps, .bool tu] 324)).cell? ⟨w.heap.size, 1, none⟩ = some (.bool tu) := by rw [cell_of_block q0]; rfl
 have H0 := kq3 z0 q0 k0
 clear z0 q0 k0 B0 h
 go_enter Tryz.func225, Tryz.ntmps225
 go_wp2_with fail
 clear c0 c1
 refine (HG.out.1 _ H0.out.1).mono ?_
 rintro e w1 ⟨rfl, hs, hkz⟩
 have rr := (hkz.block w.heap.size (Or.inr ⟨Nat.le_refl _, Nat.lt_succ_self _⟩)).trans H0.out.2.1
 have hk := H0.out.2.2.trans (hkz.mono (fun k hk => Or.inl hk))
 obtain ⟨c0, c1⟩ := cells2 rr
 have H1 := kq3 hs rr hk
 clear hkz rr hs hk
 go_wp2_with fail
 clear c0 c1
 refine (HG.out.2.1 _ H1.out.1).mono ?_
 rintro e w2 ⟨rfl, hb⟩
 have rr := (hb.block w.heap.size (gl H1.out.2.1)).trans H1.out.2.1
 have hs := H1.out.1.below hb
 have hk := H1.out.2.2.trans ((H1.out.1.keep hb).mono (fun k hk => Or.inl hk))
 obtain ⟨c0, c1⟩ := cells2 rr
 have H2 := kq3 hs rr hk
 clear hb rr hs hk
 go_wp2_with fail
 clear c0 c1
 refine (HG.out.2.2 _ H2.out.1).mono ?_
 rintro e w3 ⟨rfl, hb⟩
 have rr := (hb.block w.heap.size (gl H2.out.2.1)).trans H2.out.2.1
 have hs := H2.out.1.below hb
 have hk := H2.out.2.2.trans ((H2.out.1.keep hb).mono (fun k hk => Or.inl hk))
 obtain ⟨c0, c1⟩ := cells2 rr
 have H3 := kq3 hs rr hk
 clear hb rr hs hk
 go_wp2_with fail
 clear c0 c1
 go_ret
 exact ⟨rfl, H3.out.1.mono (fun k hk => Or.inl hk), H3.out.2.2⟩
