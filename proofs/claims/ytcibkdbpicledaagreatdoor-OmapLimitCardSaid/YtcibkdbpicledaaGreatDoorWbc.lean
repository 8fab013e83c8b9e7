import Derived.Test.YtcibkdbpicledaaGreatDoorWbb
set_option maxRecDepth 100000
set_option maxHeartbeats 1600000
namespace Go.Proofs.YtcibkdbpicledaaGreatDoor
open Go.RowKit Go.BigFrame Go.Maps Go.WideMaps Lf
theorem rb_top {w : World} {ps : Nat} {S S' : St} {Y : Nat → Prop} (h : StOn w ps S Y) (hi : Inv S) (tu : Bool) (t m low : Nat) {x : Nat} (hm : m < 18446744073709551616) (ht : t < 18446744073709551616) (hw : low < 18446744073709551616) (hj : topR tu S t m low = some (x, S')) :
 Calls Tryz.prog 225 #[jnV ps tu, .int .u64 t, .int .u64 m, .int .u64 low] w fun e w' => e = .returned (.int .u64 x) ∧ StOn w' ps S' Y ∧ Keep Y w w' := by
 unfold topR at hj
 split at hj
 · cases hj
 · rename_i y S1 h1
   by_cases c1 : redT S1 y = true
   · by_cases c2 : redT S1 (sidesT S1 tu y).2 = true
     · rw [if_pos ⟨c1, c2⟩] at hj
       obtain ⟨S2, h2, h3⟩ := Option.map_eq_some_iff.1 hj
       injection h3 with e1 e2
       subst e1 e2
       exact rb_top_red h hi tu t m low hm ht hw h1 c1 c2 h2
     · rw [if_neg (fun q => c2 q.2)] at hj
       injection hj with hj
       injection hj with e1 e2
       subst e1 e2
       exact rb_top_half h hi tu t m low hm ht hw h1 c1 (by simpa using c2)
   · rw [if_neg (fun q => c1 q.1)] at hj
     injection hj with hj
     injection hj with e1 e2
     subst e1 e2
     exact rb_top_black h hi tu t m low hm ht hw h1 (by simpa using c1)
theorem rb_Join_gt {w : World} {ps : Nat} {S S' : St} {Y : Nat → Prop} (h : StOn w ps S Y) (hi : Inv S) (l m r : Nat) (hl : l < 18446744073709551616) (hm : m < 18446744073709551616) (hr : r < 18446744073709551616) (h0 : m ≠ 0) (t1 : isT S l = true) (t2 : isT S m = true) (t3 : isT S r = true) {x : Nat} (hc : blackT S r < blackT S l) (hp : topR false S l m r = some (x, S')) :
 Calls Tryz.prog 199 #[PV ps, .int .u64 l, .int .u64 m, .int .u64 r] w fun e w' => e = .returned (.tuple #[.int .u64 x, .int .i64 0]) ∧ StOn w' ps S' Y ∧ Keep Y w w' := by
 have hlen := st_len h hi 0 (by omega)
 rw [len_zero] at hlen
 have h1' := rb_is h hi l hl
 have h2' := fun W (hW : Below w.heap.size w W) => rb_is (h.below hW) hi m hm
 have h3' := fun W (hW : Below w.heap.size w W) => rb_is (h.below hW) hi r hr
 have hb1 := fun W (hW : Below w.heap.size w W) => rb_black (h.below hW) hi l hl
 have hb2 := fun W (hW : Below w.heap.size w W) => rb_black (h.below hW) hi r hr
 rw [t1] at h1'
 rw [t2] at h2'
 rw [t3] at h3'
 have hq : ((m : Int) == 0) = false := by simp; omega
 have hp := fun W (hW : Below w.heap.size w W) => rb_top (h.below hW) hi false l m r hm hl hr hp
 unfold jnV at hp
 have hc1 : ((blackT S r : Nat) : Int) < (blackT S l : Nat) := by omega
 clear hc
 generalize blackT S l = bk1 at *
 generalize blackT S r = bk2 at *
 have HG := kq8 hlen h1' h2' h3' hb1 hb2 h hp
 clear hlen h1' h2' h3' hb1 hb2 h hp hi h0 t1 t2 t3
 go_enter Tryz.func199, Tryz.ntmps199
 go_wp2_with fail
 refine HG.out.1.mono ?_
 rintro e w1 ⟨rfl, rfl⟩
 go_wp2_with fail
 refine HG.out.2.1.mono ?_
 rintro e w1 ⟨rfl, hb⟩
 have H1 := Lib.hid hb
 clear hb
 go_wp2_with fail
 refine (HG.out.2.2.1 _ H1.out).mono ?_
 rintro e w2 ⟨rfl, hb⟩
 have H2 := Lib.hid (H1.out.trans (hb.mono H1.out.size))
 clear hb
 go_wp2_with fail
 refine (HG.out.2.2.2.1 _ H2.out).mono ?_
 rintro e w3 ⟨rfl, hb⟩
 have H3 := Lib.hid (H2.out.trans (hb.mono H2.out.size))
 clear hb
 go_wp2_with fail
 refine (HG.out.2.2.2.2.1 _ H3.out).mono ?_
 rintro e w4 ⟨rfl, hb⟩
 have H4 := Lib.hid (H3.out.trans (hb.mono H3.out.size))
 clear hb
 go_wp2_with fail
 refine (HG.out.2.2.2.2.2.1 _ H4.out).mono ?_
 rintro e w5 ⟨rfl, hb⟩
 have H5 := Lib.hid (H4.out.trans (hb.mono H4.out.size))
 clear hb
 go_wp2_with fail
 refine (HG.out.2.2.2.2.2.2.2 _ H5.out).mono ?_
 rintro e w6 ⟨rfl, hs, hk⟩
 have HE := kq2 hs ((HG.out.2.2.2.2.2.2.1.keep H5.out).trans hk)
 clear hs hk
 go_wp2_with fail
 go_ret2
 exact ⟨rfl, HE.out⟩
theorem rb_Join_lt {w : World} {ps : Nat} {S S' : St} {Y : Nat → Prop} (h : StOn w ps S Y) (hi : Inv S) (l m r : Nat) (hl : l < 18446744073709551616) (hm : m < 18446744073709551616) (hr : r < 18446744073709551616) (h0 : m ≠ 0) (t1 : isT S l = true) (t2 : isT S m = true) (t3 : isT S r = true) {x : Nat} (hc : blackT S l < blackT S r) (hp : topR true S r m l = some (x, S')) :
 Calls Tryz.prog 199 #[PV ps, .int .u64 l, .int .u64 m, .int .u64 r] w fun e w' => e = .returned (.tuple #[.int .u64 x, .int .i64 0]) ∧ StOn w' ps S' Y ∧ Keep Y w w' := by
 have hlen := st_len h hi 0 (by omega)
 rw [len_zero] at hlen
 have h1' := rb_is h hi l hl
 have h2' := fun W (hW : Below w.heap.size w W) => rb_is (h.below hW) hi m hm
 have h3' := fun W (hW : Below w.heap.size w W) => rb_is (h.below hW) hi r hr
 have hb1 := fun W (hW : Below w.heap.size w W) => rb_black (h.below hW) hi l hl
 have hb2 := fun W (hW : Below w.heap.size w W) => rb_black (h.below hW) hi r hr
 rw [t1] at h1'
 rw [t2] at h2'
 rw [t3] at h3'
 have hq : ((m : Int) == 0) = false := by simp; omega
 have hp := fun W (hW : Below w.heap.size w W) => rb_top (h.below hW) hi true r m l hm hr hl hp
 unfold jnV at hp
 have hc1 : ((blackT S l : Nat) : Int) < (blackT S r : Nat) := by omega
 have hc2 : ¬ ((blackT S r : Nat) : Int) < (blackT S l : Nat) := by omega
 clear hc
 generalize blackT S l = bk1 at *
 generalize blackT S r = bk2 at *
 have HG := kq8 hlen h1' h2' h3' hb1 hb2 h hp
 clear hlen h1' h2' h3' hb1 hb2 h hp hi h0 t1 t2 t3
 go_enter Tryz.func199, Tryz.ntmps199
 go_wp2_with fail
 refine HG.out.1.mono ?_
 rintro e w1 ⟨rfl, rfl⟩
 go_wp2_with fail
 refine HG.out.2.1.mono ?_
 rintro e w1 ⟨rfl, hb⟩
 have H1 := Lib.hid hb
 clear hb
 go_wp2_with fail
 refine (HG.out.2.2.1 _ H1.out).mono ?_
 rintro e w2 ⟨rfl, hb⟩
 have H2 := Lib.hid (H1.out.trans (hb.mono H1.out.size))
 clear hb
 go_wp2_with fail
 refine (HG.out.2.2.2.1 _ H2.out).mono ?_
 rintro e w3 ⟨rfl, hb⟩
 have H3 := Lib.hid (H2.out.trans (hb.mono H2.out.size))
 clear hb
 go_wp2_with fail
 refine (HG.out.2.2.2.2.1 _ H3.out).mono ?_
 rintro e w4 ⟨rfl, hb⟩
 have H4 := Lib.hid (H3.out.trans (hb.mono H3.out.size))
 clear hb
 go_wp2_with fail
 refine (HG.out.2.2.2.2.2.1 _ H4.out).mono ?_
 rintro e w5 ⟨rfl, hb⟩
 have H5 := Lib.hid (H4.out.trans (hb.mono H4.out.size))
 clear hb
 go_wp2_with fail
 refine (HG.out.2.2.2.2.2.2.2 _ H5.out).mono ?_
 rintro e w6 ⟨rfl, hs, hk⟩
 have HE := kq2 hs ((HG.out.2.2.2.2.2.2.1.keep H5.out).trans hk)
 clear hs hk
 go_wp2_with fail
 go_ret2
 exact ⟨rfl, HE.out⟩
theorem rb_Join_red {w : World} {ps : Nat} {S S' : St} {Y : Nat → Prop} (h : StOn w ps S Y) (hi : Inv S) (l m r : Nat) (hl : l < 18446744073709551616) (hm : m < 18446744073709551616) (hr : r < 18446744073709551616) (h0 : m ≠ 0) (t1 : isT S l = true) (t2 : isT S m = true) (t3 : isT S r = true) (hc : blackT S l = blackT S r) (hr1 : redT S l = true) (hp : putRM S m l r false = some S') :
 Calls Tryz.prog 199 #[PV ps, .int .u64 l, .int .u64 m, .int .u64 r] w fun e w' => e = .returned (.tuple #[.int .u64 m, .int .i64 0]) ∧ StOn w' ps S' Y ∧ Keep Y w w' := by
 have hlen := st_len h hi 0 (by omega)
 rw [len_zero] at hlen
 have h1' := rb_is h hi l hl
 have h2' := fun W (hW : Below w.heap.size w W) => rb_is (h.below hW) hi m hm
 have h3' := fun W (hW : Below w.heap.size w W) => rb_is (h.below hW) hi r hr
 have hb1 := fun W (hW : Below w.heap.size w W) => rb_black (h.below hW) hi l hl
 have hb2 := fun W (hW : Below w.heap.size w W) => rb_black (h.below hW) hi r hr
 rw [t1] at h1'
 rw [t2] at h2'
 rw [t3] at h3'
 have hq : ((m : Int) == 0) = false := by simp; omega
 have hp := fun W (hW : Below w.heap.size w W) => rb_put (h.below hW) hi m l r false hm hl hr hp
 have hd1 := fun W (hW : Below w.heap.size w W) => rb_red (h.below hW) hi l hl
 rw [hr1] at hd1
 rw [← hc] at hb2
 clear hc hr1
 generalize blackT S l = bk1 at *
 have HG := kq9 hlen h1' h2' h3' hb1 hb2 h hd1 hp
 clear hlen h1' h2' h3' hb1 hb2 h hd1 hp hi h0 t1 t2 t3
 go_enter Tryz.func199, Tryz.ntmps199
 go_wp2_with fail
 refine HG.out.1.mono ?_
 rintro e w1 ⟨rfl, rfl⟩
 go_wp2_with fail
 refine HG.out.2.1.mono ?_
 rintro e w1 ⟨rfl, hb⟩
 have H1 := Lib.hid hb
 clear hb
 go_wp2_with fail
 refine (HG.out.2.2.1 _ H1.out).mono ?_
 rintro e w2 ⟨rfl, hb⟩
 have H2 := Lib.hid (H1.out.trans (hb.mono H1.out.size))
 clear hb
 go_wp2_with fail
 refine (HG.out.2.2.2.1 _ H2.out).mono ?_
 rintro e w3 ⟨rfl, hb⟩
 have H3 := Lib.hid (H2.out.trans (hb.mono H2.out.size))
 clear hb
 go_wp2_with fail
 refine (HG.out.2.2.2.2.1 _ H3.out).mono ?_
 rintro e w4 ⟨rfl, hb⟩
 have H4 := Lib.hid (H3.out.trans (hb.mono H3.out.size))
 clear hb
 go_wp2_with fail
 refine (HG.out.2.2.2.2.2.1 _ H4.out).mono ?_
 rintro e w5 ⟨rfl, hb⟩
 have H5 := Lib.hid (H4.out.trans (hb.mono H4.out.size))
 clear hb
 go_wp2_with fail
 refine (HG.out.2.2.2.2.2.2.2.1 _ H5.out).mono ?_
 rintro e w6 ⟨rfl, hb⟩
 have H6 := Lib.hid (H5.out.trans (hb.mono H5.out.size))
 clear hb
 go_wp2_with fail
 refine (HG.out.2.2.2.2.2.2.2.2 _ H6.out).mono ?_
 rintro e w7 ⟨rfl, hs, hk⟩
 have HE := kq2 hs ((HG.out.2.2.2.2.2.2.1.keep H6.out).trans hk)
 clear hs hk
 go_wp2_with fail
 go_ret2
 exact ⟨rfl, HE.out⟩
theorem rb_Join_red2 {w : World} {ps : Nat} {S S' : St} {Y : Nat → Prop} (h : StOn w ps S Y) (hi : Inv S) (l m r : Nat) (hl : l < 18446744073709551616) (hm : m < 18446744073709551616) (hr : r < 18446744073709551616) (h0 : m ≠ 0) (t1 : isT S l = true) (t2 : isT S m = true) (t3 : isT S r = true) (hc : blackT S l = blackT S r) (hr1 : redT S l = false) (hr2 : redT S r = true) (hp : putRM S m l r false = some S') :
 Calls Tryz.prog 199 #[PV ps, .int .u64 l, .int .u64 m, .int .u64 r] w fun e w' => e = .returned (.tuple #[.int .u64 m, .int .i64 0]) ∧ StOn w' ps S' Y ∧ Keep Y w w' := by
 have hlen := st_len h hi 0 (by omega)
 rw [len_zero] at hlen
 have h1' := rb_is h hi l hl
 have h2' := fun W (hW : Below w.heap.size w W) => rb_is (h.below hW) hi m hm
 have h3' := fun W (hW : Below w.heap.size w W) => rb_is (h.below hW) hi r hr
 have hb1 := fun W (hW : Below w.heap.size w W) => rb_black (h.below hW) hi l hl
 have hb2 := fun W (hW : Below w.heap.size w W) => rb_black (h.below hW) hi r hr
 rw [t1] at h1'
 rw [t2] at h2'
 rw [t3] at h3'
 have hq : ((m : Int) == 0) = false := by simp; omega
 have hp := fun W (hW : Below w.heap.size w W) => rb_put (h.below hW) hi m l r false hm hl hr hp
 have hd1 := fun W (hW : Below w.heap.size w W) => rb_red (h.below hW) hi l hl
 rw [hr1] at hd1
 rw [← hc] at hb2
 clear hc hr1
 generalize blackT S l = bk1 at *
 have hd2 := fun W (hW : Below w.heap.size w W) => rb_red (h.below hW) hi r hr
 rw [hr2] at hd2
 clear hr2
 have HG := kq10 hlen h1' h2' h3' hb1 hb2 h hd1 hd2 hp
 clear hlen h1' h2' h3' hb1 hb2 h hd1 hd2 hp hi h0 t1 t2 t3
 go_enter Tryz.func199, Tryz.ntmps199
 go_wp2_with fail
 refine HG.out.1.mono ?_
 rintro e w1 ⟨rfl, rfl⟩
 go_wp2_with fail
 refine HG.out.2.1.mono ?_
 rintro e w1 ⟨rfl, hb⟩
 have H1 := Lib.hid hb
 clear hb
 go_wp2_with fail
 refine (HG.out.2.2.1 _ H1.out).mono ?_
 rintro e w2 ⟨rfl, hb⟩
 have H2 := Lib.hid (H1.out.trans (hb.mono H1.out.size))
 clear hb
 go_wp2_with fail
 refine (HG.out.2.2.2.1 _ H2.out).mono ?_
 rintro e w3 ⟨rfl, hb⟩
 have H3 := Lib.hid (H2.out.trans (hb.mono H2.out.size))
 clear hb
 go_wp2_with fail
 refine (HG.out.2.2.2.2.1 _ H3.out).mono ?_
 rintro e w4 ⟨rfl, hb⟩
 have H4 := Lib.hid (H3.out.trans (hb.mono H3.out.size))
 clear hb
 go_wp2_with fail
 refine (HG.out.2.2.2.2.2.1 _ H4.out).mono ?_
 rintro e w5 ⟨rfl, hb⟩
 have H5 := Lib.hid (H4.out.trans (hb.mono H4.out.size))
 clear hb
 go_wp2_with fail
 refine (HG.out.2.2.2.2.2.2.2.1 _ H5.out).mono ?_
 rintro e w6 ⟨rfl, hb⟩
 have H6 := Lib.hid (H5.out.trans (hb.mono H5.out.size))
 clear hb
 go_wp2_with fail
 refine (HG.out.2.2.2.2.2.2.2.2.1 _ H6.out).mono ?_
 rintro e w7 ⟨rfl, hb⟩
 have H7 := Lib.hid (H6.out.trans (hb.mono H6.out.size))
 clear hb
 go_wp2_with fail
 refine (HG.out.2.2.2.2.2.2.2.2.2 _ H7.out).mono ?_
 rintro e w8 ⟨rfl, hs, hk⟩
 have HE := kq2 hs ((HG.out.2.2.2.2.2.2.1.keep H7.out).trans hk)
 clear hs hk
 go_wp2_with fail
 go_ret2
 exact ⟨rfl, HE.out⟩
theorem rb_Join_black {w : World} {ps : Nat} {S S' : St} {Y : Nat → Prop} (h : StOn w ps S Y) (hi : Inv S) (l m r : Nat) (hl : l < 18446744073709551616) (hm : m < 18446744073709551616) (hr : r < 18446744073709551616) (h0 : m ≠ 0) (t1 : isT S l = true) (t2 : isT S m = true) (t3 : isT S r = true) (hc : blackT S l = blackT S r) (hr1 : redT S l = false) (hr2 : redT S r = false) (hp : putRM S m l r true = some S') :
 Calls Tryz.prog 199 #[PV ps, .int .u64 l, .int .u64 m, .int .u64 r] w fun e w' => e = .returned (.tuple #[.int .u64 m, .int .i64 0]) ∧ StOn w' ps S' Y ∧ Keep Y w w' := by
 have hlen := st_len h hi 0 (by omega)
 rw [len_zero] at hlen
 have h1' := rb_is h hi l hl
 have h2' := fun W (hW : Below w.heap.size w W) => rb_is (h.below hW) hi m hm
 have h3' := fun W (hW : Below w.heap.size w W) => rb_is (h.below hW) hi r hr
 have hb1 := fun W (hW : Below w.heap.size w W) => rb_black (h.below hW) hi l hl
 have hb2 := fun W (hW : Below w.heap.size w W) => rb_black (h.below hW) hi r hr
 rw [t1] at h1'
 rw [t2] at h2'
 rw [t3] at h3'
 have hq : ((m : Int) == 0) = false := by simp; omega
 have hp := fun W (hW : Below w.heap.size w W) => rb_put (h.below hW) hi m l r true hm hl hr hp
 have hd1 := fun W (hW : Below w.heap.size w W) => rb_red (h.below hW) hi l hl
 rw [hr1] at hd1
 rw [← hc] at hb2
 clear hc hr1
 generalize blackT S l = bk1 at *
 have hd2 := fun W (hW : Below w.heap.size w W) => rb_red (h.below hW) hi r hr
 rw [hr2] at hd2
 clear hr2
 have HG := kq10 hlen h1' h2' h3' hb1 hb2 h hd1 hd2 hp
 clear hlen h1' h2' h3' hb1 hb2 h hd1 hd2 hp hi h0 t1 t2 t3
 go_enter Tryz.func199, Tryz.ntmps199
 go_wp2_with fail
 refine HG.out.1.mono ?_
 rintro e w1 ⟨rfl, rfl⟩
 go_wp2_with fail
 refine HG.out.2.1.mono ?_
 rintro e w1 ⟨rfl, hb⟩
 have H1 := Lib.hid hb
 clear hb
 go_wp2_with fail
 refine (HG.out.2.2.1 _ H1.out).mono ?_
 rintro e w2 ⟨rfl, hb⟩
 have H2 := Lib.hid (H1.out.trans (hb.mono H1.out.size))
 clear hb
 go_wp2_with fail
 refine (HG.out.2.2.2.1 _ H2.out).mono ?_
 rintro e w3 ⟨rfl, hb⟩
 have H3 := Lib.hid (H2.out.trans (hb.mono H2.out.size))
 clear hb
 go_wp2_with fail
 refine (HG.out.2.2.2.2.1 _ H3.out).mono ?_
 rintro e w4 ⟨rfl, hb⟩
 have H4 := Lib.hid (H3.out.trans (hb.mono H3.out.size))
 clear hb
 go_wp2_with fail
 refine (HG.out.2.2.2.2.2.1 _ H4.out).mono ?_
 rintro e w5 ⟨rfl, hb⟩
 have H5 := Lib.hid (H4.out.trans (hb.mono H4.out.size))
 clear hb
 go_wp2_with fail
 refine (HG.out.2.2.2.2.2.2.2.1 _ H5.out).mono ?_
 rintro e w6 ⟨rfl, hb⟩
 have H6 := Lib.hid (H5.out.trans (hb.mono H5.out.size))
 clear hb
 go_wp2_with fail
 refine (HG.out.2.2.2.2.2.2.2.2.1 _ H6.out).mono ?_
 rintro e w7 ⟨rfl, hb⟩
 have H7 := Lib.hid (H6.out.trans (hb.mono H6.out.size))
 clear hb
 go_wp2_with fail
 refine (HG.out.2.2.2.2.2.2.2.2.2 _ H7.out).mono ?_
 rintro e w8 ⟨rfl, hs, hk⟩
 have HE := kq2 hs ((HG.out.2.2.2.2.2.2.1.keep H7.out).trans hk)
 clear hs hk
 go_wp2_with fail
 go_ret2
 exact ⟨rfl, HE.out⟩
theorem rb_JoinB {w : World} {ps : Nat} {S S' : St} {Y : Nat → Prop} (h : StOn w ps S Y) (hi : Inv S) (l m r : Nat) (hl : l < 18446744073709551616) (hm : m < 18446744073709551616) (hr : r < 18446744073709551616) {R : Nat × Nat} (hR : redJ S l m r = some (R, S')) :
 Calls Tryz.prog 199 #[PV ps, .int .u64 l, .int .u64 m, .int .u64 r] w fun e w' => e = .returned (.tuple #[.int .u64 R.1, .int .i64 R.2]) ∧ StOn w' ps S' Y ∧ Keep Y w w' := by
 unfold redJ at hR
 split at hR
 · cases hR
 rename_i hc
 simp only [not_or, Bool.not_eq_false] at hc
 obtain ⟨h0, t1, t2, t3⟩ := hc
 split at hR
 · rename_i hc
   obtain ⟨⟨x, S1⟩, h1, h2⟩ := Option.map_eq_some_iff.1 hR
   injection h2 with e1 e2
   subst e1 e2
   exact rb_Join_gt h hi l m r hl hm hr h0 t1 t2 t3 hc h1
 · rename_i hc1
   split at hR
   · rename_i hc
     obtain ⟨⟨x, S1⟩, h1, h2⟩ := Option.map_eq_some_iff.1 hR
     injection h2 with e1 e2
     subst e1 e2
     exact rb_Join_lt h hi l m r hl hm hr h0 t1 t2 t3 hc h1
   · rename_i hc2
     obtain ⟨S1, h1, h2⟩ := Option.map_eq_some_iff.1 hR
     injection h2 with e1 e2
     subst e1 e2
     have he : blackT S l = blackT S r := by omega
     cases a1 : redT S l with
     | true => rw [a1] at h1; exact rb_Join_red h hi l m r hl hm hr h0 t1 t2 t3 he a1 h1
     | false =>
      cases a2 : redT S r with
      | true => rw [a1, a2] at h1; exact rb_Join_red2 h hi l m r hl hm hr h0 t1 t2 t3 he a1 a2 h1
      | false => rw [a1, a2] at h1; exact rb_Join_black h hi l m r hl hm hr h0 t1 t2 t3 he a1 a2 h1
theorem joins_redJ : JoinsAs 199 redJ where
 enter args w := by go_simp
 inv hi h := (redJ_inv hi h).1
 lt hi _ hm _ h := (redJ_inv hi h).2.1 hm
 ok h := by
  unfold redJ at h
  split at h
  · cases h
  · split at h
    · obtain ⟨_, _, h2⟩ := Option.map_eq_some_iff.1 h
      injection h2 with e1 e2
      rw [← e1]
    · split at h
      · obtain ⟨_, _, h2⟩ := Option.map_eq_some_iff.1 h
        injection h2 with e1 e2
        rw [← e1]
      · obtain ⟨_, _, h2⟩ := Option.map_eq_some_iff.1 h
        injection h2 with e1 e2
        rw [← e1]
 call h hi hl hm hr hR := rb_JoinB h hi _ _ _ hl hm hr hR
theorem kind_redJ : KindOk 2 199 200 redJ := ⟨Or.inr rfl, way_red, joins_redJ, checks_red⟩
end Go.Proofs.YtcibkdbpicledaaGreatDoor
namespace Go.Proofs.YtcibkdbpicledaaGreatDoor
open Lf
namespace Tr
theorem split3 {A B : List Nat} {d : Nat} (h : (A ++ d :: B).Nodup) : A.Nodup ∧ B.Nodup ∧ d ∉ A ∧ d ∉ B ∧ ∀ y ∈ A, y ∉ B := by
 obtain ⟨h1, h2, h3⟩ := List.nodup_append.1 h
 obtain ⟨h4, h5⟩ := List.nodup_cons.1 h2
 exact ⟨h1, h5, fun hm => h3 _ hm _ (List.mem_cons_self ..) rfl, h4, fun y hy hm => h3 _ hy _ (List.mem_cons_of_mem _ hm) rfl⟩
theorem join3 {A B : List Nat} {d : Nat} (h1 : A.Nodup) (h2 : B.Nodup) (h3 : d ∉ A) (h4 : d ∉ B) (h5 : ∀ y ∈ A, y ∉ B) : (A ++ d :: B).Nodup :=
 List.nodup_append.2 ⟨h1, List.nodup_cons.2 ⟨h4, h2⟩, fun a ha b hb e => by
  subst e
  rcases List.mem_cons.1 hb with e | e
  · exact h3 (e ▸ ha)
  · exact h5 a ha e⟩
def nt (tu : Bool) (o : Tr) (d : It) (m : Nat) (w : Tr) : Tr := if tu = true then node w d m o else node o d m w
theorem nt_root (tu : Bool) (o : Tr) (d : It) (m : Nat) (w : Tr) : (nt tu o d m w).root = d.h := by cases tu <;> rfl
theorem nt_mark (tu : Bool) (o : Tr) (d : It) (m : Nat) (w : Tr) : (nt tu o d m w).mark = m := by cases tu <;> rfl
theorem nt_its (tu : Bool) (o : Tr) (d : It) (m : Nat) (w : Tr) : (nt tu o d m w).its = if tu = true then w.its ++ d :: o.its else o.its ++ d :: w.its := by cases tu <;> rfl
theorem nt_len (tu : Bool) (o : Tr) (d : It) (m : Nat) (w : Tr) : (nt tu o d m w).its.length = o.its.length + w.its.length + 1 := by
 rw [nt_its]; cases tu <;> simp <;> omega
theorem nt_mem (tu : Bool) (o : Tr) (d : It) (m : Nat) (w : Tr) (y : Nat) : y ∈ (nt tu o d m w).hs ↔ y ∈ o.hs ∨ y = d.h ∨ y ∈ w.hs := by
 cases tu
 · show y ∈ (node o d m w).hs ↔ _
   rw [hs_node]; simp
 · show y ∈ (node w d m o).hs ↔ _
   rw [hs_node]; simp
   constructor
   · rintro (h | h | h)
     · exact Or.inr (Or.inr h)
     · exact Or.inr (Or.inl h)
     · exact Or.inl h
   · rintro (h | h | h)
     · exact Or.inr (Or.inr h)
     · exact Or.inr (Or.inl h)
     · exact Or.inl h
theorem nt_nodup (tu : Bool) (o : Tr) (d : It) (m : Nat) (w : Tr) : (nt tu o d m w).hs.Nodup ↔ (o.hs ++ d.h :: w.hs).Nodup := by
 cases tu
 · show (node o d m w).hs.Nodup ↔ _
   rw [hs_node]
 · show (node w d m o).hs.Nodup ↔ _
   rw [hs_node]
   constructor
   · intro h
     obtain ⟨h1, h2, h3, h4, h5⟩ := split3 h
     exact join3 h2 h1 h4 h3 fun y hy hm => h5 y hm hy
   · intro h
     obtain ⟨h1, h2, h3, h4, h5⟩ := split3 h
     exact join3 h2 h1 h4 h3 fun y hy hm => h5 y hm hy
theorem nt_at {S : St} {tu : Bool} {o : Tr} {d : It} {m : Nat} {w : Tr} (h : At S (nt tu o d m w)) : At S o ∧ At S w ∧ ∃ n0, reco S d.h = some (ndWords n0) ∧ n0.key = d.kh ∧ n0.val = d.vh := by
 cases tu
 · exact ⟨h.2.1, h.2.2, _, h.1, rfl, rfl⟩
 · exact ⟨h.2.2, h.2.1, _, h.1, rfl, rfl⟩
theorem nt_sides {S : St} {f : Nat → Nat} (hf : Fit S f) {tu : Bool} {o : Tr} {d : It} {m : Nat} {w : Tr} (h : At S (nt tu o d m w)) : sidesT S tu d.h = (o.root, w.root) := by
 unfold sidesT
 cases tu
 · have h : At S (node o d m w) := h
   rw [h.getNode hf]; rfl
 · have h : At S (node w d m o) := h
   rw [h.getNode hf]; rfl
theorem At.red {S : St} {f : Nat → Nat} (hf : Fit S f) {t : Tr} (h : At S t) : redT S t.root = decide (t.mark % 2 = 1) := by
 unfold redT
 have := (h.mark_eq hf).1
 unfold markT at this
 rw [this]
theorem At.black {S : St} {f : Nat → Nat} (hf : Fit S f) {t : Tr} (h : At S t) : blackT S t.root = t.mark / 2 := by
 unfold blackT
 have := (h.mark_eq hf).1
 unfold markT at this
 rw [this]
def Sr (t : Tr) : Prop := t.mark < 100000 ∧ t.its.length < 100000
theorem put_fit {S : St} {f : Nat → Nat} (hf : Fit S f) {l r : Tr} {d : It} {n0 : Nd} (c : Bool) (hl : At S l) (hr : At S r) (hd : reco S d.h = some (ndWords n0)) (hk0 : n0.key = d.kh) (hv0 : n0.val = d.vh) (hnl : d.h ∉ l.hs) (hnr : d.h ∉ r.hs) (sl : Sr l) (sr : Sr r) :
 ∃ S', putRM S d.h l.root r.root c = some S' ∧ Fit S' f ∧ At S' (node l d (l.mark / 2 * 2 + (if c then 1 else 2)) r) ∧ (∀ h', h' ≠ d.h → reco S' h' = reco S h') ∧ Grew S S' 0 0 := by
 have hw := (look_ok hf hd).2.2.2
 have hkl : d.kh < 18446744073709551616 := by rw [← hk0]; exact hw _ (by simp [ndWords])
 have hvl : d.vh < 18446744073709551616 := by rw [← hv0]; exact hw _ (by simp [ndWords])
 have h1 := sl.1
 have h2 := sl.2
 have h3 := sr.2
 have hlen : (node l d (l.mark / 2 * 2 + (if c then 1 else 2)) r).its.length = l.its.length + (r.its.length + 1) := by simp [its]
 have hnd : NdLt (nd l d (l.mark / 2 * 2 + (if c then 1 else 2)) r) := by
  refine ⟨hkl, hvl, hl.root_lt hf, hr.root_lt hf, ?_, ?_⟩
  · show l.mark / 2 * 2 + (if c then 1 else 2) < _
    cases c <;> simp <;> omega
  · show (node l d (l.mark / 2 * 2 + (if c then 1 else 2)) r).its.length < _; omega
 obtain ⟨S', e, hf', hlk, ho, hg⟩ := putNode_fit hf hd hnd
 refine ⟨S', ?_, hf', ⟨hlk, hl.frame fun h hm => ho h fun e => hnl (e ▸ hm), hr.frame fun h hm => ho h fun e => hnr (e ▸ hm)⟩, ho, hg⟩
 unfold putRM
 rw [hl.size hf (by omega), hr.size hf (by omega), hl.black hf, getNode_look hf hd]
 simp only
 rw [if_neg (by omega)]
 have : ({ n0 with left := l.root, right := r.root, mark := l.mark / 2 * 2 + (if c then 1 else 2), size := l.its.length + r.its.length + 1 } : Nd) = nd l d (l.mark / 2 * 2 + (if c then 1 else 2)) r := by
  unfold nd
  rw [hk0, hv0, hlen]
  congr 1
 rw [this, e]
theorem pj_fit {S : St} {f : Nat → Nat} (hf : Fit S f) (tu : Bool) {o w : Tr} {d : It} {n0 : Nd} (c : Bool) (ho : At S o) (hw : At S w) (hd : reco S d.h = some (ndWords n0)) (hk0 : n0.key = d.kh) (hv0 : n0.val = d.vh) (hno : d.h ∉ o.hs) (hnw : d.h ∉ w.hs) (so : Sr o) (sw : Sr w) (hb : o.mark / 2 = w.mark / 2) :
 ∃ S', putJ S tu d.h o.root w.root c = some S' ∧ Fit S' f ∧ At S' (nt tu o d (o.mark / 2 * 2 + (if c then 1 else 2)) w) ∧ (∀ h', h' ≠ d.h → reco S' h' = reco S h') ∧ Grew S S' 0 0 := by
 cases tu
 · exact put_fit hf c ho hw hd hk0 hv0 hno hnw so sw
 · have := put_fit hf c hw ho hd hk0 hv0 hnw hno sw so
   rw [← hb] at this
   exact this
def Rb : Tr → Prop
 | nil => True
 | node l _ m r => Rb l ∧ Rb r ∧ l.mark / 2 = r.mark / 2 ∧ ((m = l.mark / 2 * 2 + 1 ∧ l.mark % 2 = 0 ∧ r.mark % 2 = 0) ∨ m = l.mark / 2 * 2 + 2)
theorem Rb.mark_le : ∀ {t : Tr}, Rb t → t.mark ≤ 2 * t.its.length
 | nil, _ => Nat.le_refl _
 | node l d m r, ⟨h1, h2, h3, h4⟩ => by
  have := h1.mark_le
  have := h2.mark_le
  show m ≤ 2 * (l.its ++ d :: r.its).length
  simp only [List.length_append, List.length_cons]
  omega
theorem Rb.sr {t : Tr} (h : Rb t) (hl : t.its.length < 40000) : Sr t := ⟨by have := h.mark_le; omega, by omega⟩
structure RbN (o w : Tr) (m : Nat) : Prop where
 ro : Rb o
 rw' : Rb w
 bh : o.mark / 2 = w.mark / 2
 col : (m = o.mark / 2 * 2 + 1 ∧ o.mark % 2 = 0 ∧ w.mark % 2 = 0) ∨ m = o.mark / 2 * 2 + 2
theorem RbN.nt {tu : Bool} {o w : Tr} {d : It} {m : Nat} (h : RbN o w m) : Rb (Tr.nt tu o d m w) := by
 obtain ⟨h1, h2, h3, h4⟩ := h
 cases tu
 · exact ⟨h1, h2, h3, h4⟩
 · refine ⟨h2, h1, h3.symm, ?_⟩
   rcases h4 with h4 | h4
   · left; omega
   · right; omega
theorem Rb.node_nt (tu : Bool) {t : Tr} (h : Rb t) (hm : t.mark ≠ 0) : ∃ o d m w, t = Tr.nt tu o d m w ∧ RbN o w m := by
 cases t with
 | nil => exact absurd rfl hm
 | node l d m r =>
  obtain ⟨h1, h2, h3, h4⟩ := h
  cases tu
  · exact ⟨l, d, m, r, rfl, h1, h2, h3, h4⟩
  · refine ⟨r, d, m, l, rfl, h2, h1, h3.symm, ?_⟩
    rcases h4 with h4 | h4
    · left; omega
    · right; omega
def Al1 (tu : Bool) (u : Tr) : Prop := ∃ o d m w, u = Tr.nt tu o d m w ∧ Rb o ∧ Rb w ∧ o.mark % 2 = 0 ∧ o.mark / 2 = w.mark / 2 ∧ m = o.mark / 2 * 2 + 1
def Al2 (tu : Bool) (u : Tr) : Prop := ∃ o d m w, u = Tr.nt tu o d m w ∧ Rb o ∧ (Rb w ∨ Al1 tu w) ∧ o.mark % 2 = 0 ∧ o.mark / 2 = w.mark / 2 ∧ m = o.mark / 2 * 2 + 1
theorem Al1.two {tu : Bool} {u : Tr} (h : Al1 tu u) : Al2 tu u := by
 obtain ⟨o, d, m, w, h1, h2, h3, h4⟩ := h
 exact ⟨o, d, m, w, h1, h2, Or.inl h3, h4⟩
theorem Al1.odd {tu : Bool} {u : Tr} (h : Al1 tu u) : u.mark % 2 = 1 := by
 obtain ⟨o, d, m, w, rfl, _, _, _, _, h⟩ := h
 rw [nt_mark]; omega
theorem Al2.odd {tu : Bool} {u : Tr} (h : Al2 tu u) : u.mark % 2 = 1 := by
 obtain ⟨o, d, m, w, rfl, _, _, _, _, h⟩ := h
 rw [nt_mark]; omega
theorem al2_of {tu : Bool} {u : Tr} (h : Rb u ∨ Al2 tu u) (hr : u.mark % 2 = 1) : Al2 tu u := by
 rcases h with h | h
 · obtain ⟨o, d, m, w, rfl, h1, h2, h3, h4⟩ := h.node_nt tu (by omega)
   rw [nt_mark] at hr
   have h4 : m = o.mark / 2 * 2 + 1 ∧ o.mark % 2 = 0 ∧ w.mark % 2 = 0 := by rcases h4 with h4 | h4 <;> omega
   exact ⟨o, d, m, w, rfl, h1, Or.inl h2, h4.2.1, h3, h4.1⟩
 · exact h
theorem al1_of {tu : Bool} {u : Tr} (h : Rb u ∨ Al1 tu u) (hr : u.mark % 2 = 1) : Al1 tu u := by
 rcases h with h | h
 · obtain ⟨o, d, m, w, rfl, h1, h2, h3, h4⟩ := h.node_nt tu (by omega)
   rw [nt_mark] at hr
   have h4 : m = o.mark / 2 * 2 + 1 ∧ o.mark % 2 = 0 ∧ w.mark % 2 = 0 := by rcases h4 with h4 | h4 <;> omega
   exact ⟨o, d, m, w, rfl, h1, h2, h4.2.1, h3, h4.1⟩
 · exact h
def itsT (tu : Bool) (a : List It) (d : It) (b : List It) : List It := if tu = true then b ++ d :: a else a ++ d :: b
theorem fix_fit {S : St} {f : Nat → Nat} (hf : Fit S f) {tu : Bool} {oth x : Tr} {e : It} (ha : At S (nt tu oth e (oth.mark / 2 * 2 + 2) x)) (hnd : (nt tu oth e (oth.mark / 2 * 2 + 2) x).hs.Nodup) (hlen : (nt tu oth e (oth.mark / 2 * 2 + 2) x).its.length < 40000)
 (ro : Rb oth) (rx : Rb x ∨ Al2 tu x) (hb : oth.mark / 2 = x.mark / 2) :
 ∃ u S', fixR tu S e.h oth.root x.root false = some (u.root, S') ∧ Did S S' f (nt tu oth e (oth.mark / 2 * 2 + 2) x).hs u ∧ u.its = (nt tu oth e (oth.mark / 2 * 2 + 2) x).its ∧ Rb u ∧ u.mark / 2 = oth.mark / 2 + 1 := by
 obtain ⟨ho, hx, n0, hn0, hk0, hv0⟩ := nt_at ha
 have hrx := hx.red hf
 by_cases c1 : x.mark % 2 = 1
 · obtain ⟨a, xd, xm, b, rfl, ra, rb, ea, eb, em⟩ := al2_of rx c1
   rw [nt_mark] at hb c1
   have hs := nt_sides hf hx
   obtain ⟨hata, hatb, n1, hn1, hk1, hv1⟩ := nt_at hx
   have hrb := hatb.red hf
   by_cases c2 : b.mark % 2 = 1
   · obtain ⟨c, bd, bm, d', rfl, rc, rd, ec, ed, ebm⟩ := al1_of rb c2
     rw [nt_mark] at eb c2
     have hsb := nt_sides hf hatb
     obtain ⟨hatc, hatd, n2, hn2, hk2, hv2⟩ := nt_at hatb
     rw [nt_nodup] at hnd
     obtain ⟨d1, d2, d3, d4, d5⟩ := split3 hnd
     rw [nt_nodup] at d2
     obtain ⟨d6, d7, d8, d9, d10⟩ := split3 d2
     rw [nt_nodup] at d7
     obtain ⟨d11, d12, d13, d14, d15⟩ := split3 d7
     simp only [nt_mem, not_or] at d4 d5 d9 d10
     rw [nt_len, nt_len, nt_len] at hlen
     have so := ro.sr (by omega)
     have sa := ra.sr (by omega)
     have sc := rc.sr (by omega)
     have sd := rd.sr (by omega)
     obtain ⟨S1, e1, f1, a1, o1, g1⟩ := pj_fit hf tu false hatc hatd hn2 hk2 hv2 d13 d14 sc sd ed
     have ho1 : At S1 oth := ho.frame fun y hy => o1 y fun q => (d5 y hy).2.2.2.1 q
     have ha1 : At S1 a := hata.frame fun y hy => o1 y fun q => (d10 y hy).2.1 q
     have he1 : reco S1 e.h = some (ndWords n0) := (o1 _ fun q => d4.2.2.2.1 q).trans hn0
     have hx1 : reco S1 xd.h = some (ndWords n1) := (o1 _ fun q => d9.2.1 q).trans hn1
     obtain ⟨S2, e2, f2, a2, o2, g2⟩ := pj_fit f1 tu false ho1 ha1 he1 hk0 hv0 d3 d4.1 so sa (by omega)
     have hb2 : At S2 (nt tu c bd (c.mark / 2 * 2 + 2) d') := a1.frame fun y hy => o2 y fun q => by
      rw [nt_mem] at hy
      subst q
      rcases hy with hy | hy | hy
      · exact d4.2.2.1 hy
      · exact d4.2.2.2.1 hy
      · exact d4.2.2.2.2 hy
     have hx2 : reco S2 xd.h = some (ndWords n1) := (o2 _ fun q => d4.2.1 q.symm).trans hx1
     have st : Sr (nt tu oth e (oth.mark / 2 * 2 + 2) a) := ⟨by rw [nt_mark]; have := so.1; have := ro.mark_le; omega, by rw [nt_len]; omega⟩
     have sb : Sr (nt tu c bd (c.mark / 2 * 2 + 2) d') := ⟨by rw [nt_mark]; have := rc.mark_le; omega, by rw [nt_len]; omega⟩
     obtain ⟨S3, e3, f3, a3, o3, g3⟩ := pj_fit f2 tu true a2 hb2 hx2 hk1 hv1 (by rw [nt_mem]; simp only [not_or]; exact ⟨fun q => (d5 _ q).2.1 rfl, fun q => d4.2.1 q.symm, d8⟩) (by rw [nt_mem]; simp only [not_or]; exact d9) st sb (by rw [nt_mark, nt_mark]; simp only [Bool.false_eq_true, if_false]; omega)
     refine ⟨_, S3, ?_, ⟨f3, a3, ?_, (g1.trans g2).trans g3⟩, ?_, ?_, ?_⟩
     · unfold fixR
       rw [hrx, nt_mark]
       rw [if_neg (by simp; omega), nt_root, hs]
       simp only
       rw [hrb, nt_mark, if_neg (by simp; omega), nt_root, hsb]
       simp only
       rw [e1]
       simp only
       rw [e2]
       simp only
       rw [nt_root, nt_root] at e3
       rw [e3, nt_root]
       rfl
     · intro y hy
       simp only [nt_mem, not_or] at hy
       exact (o3 y hy.2.2.2.1).trans ((o2 y hy.2.1).trans (o1 y hy.2.2.2.2.2.1))
     · cases tu <;> simp [nt_its]
     · refine RbN.nt ⟨RbN.nt ⟨ro, ra, by omega, Or.inr rfl⟩, RbN.nt ⟨rc, rd, ed, Or.inr rfl⟩, ?_, Or.inl ⟨rfl, ?_, ?_⟩⟩ <;> simp only [nt_mark, Bool.false_eq_true, if_false] <;> omega
     · simp only [nt_mark, Bool.false_eq_true, if_false, if_true]; omega
   · refine ⟨nt tu oth e (oth.mark / 2 * 2 + 2) (nt tu a xd xm b), S, ?_, ⟨hf, ha, fun _ _ => rfl, Grew.refl S⟩, rfl, ?_, ?_⟩
     · unfold fixR
       rw [hrx, nt_mark, if_neg (by simp; omega), nt_root, hs]
       simp only
       rw [hrb, if_pos (by simp; omega), nt_root]
     · have rb' : Rb b := by
        rcases rb with h | h
        · exact h
        · have := h.odd; omega
       refine RbN.nt ⟨ro, RbN.nt ⟨ra, rb', eb, Or.inl ⟨em, ea, by omega⟩⟩, ?_, Or.inr rfl⟩
       rw [nt_mark]; omega
     · rw [nt_mark]; omega
 · have rx' : Rb x := by
    rcases rx with h | h
    · exact h
    · have := h.odd; omega
   refine ⟨nt tu oth e (oth.mark / 2 * 2 + 2) x, S, ?_, ⟨hf, ha, fun _ _ => rfl, Grew.refl S⟩, rfl, RbN.nt ⟨ro, rx', hb, Or.inr rfl⟩, by rw [nt_mark]; omega⟩
   unfold fixR
   rw [hrx, if_pos (by right; simp; omega), nt_root]
end Tr
namespace Tr
structure Joined (tu : Bool) (t low u : Tr) : Prop where
 bh : u.mark / 2 = t.mark / 2
 all : Rb u ∨ Al2 tu u
 stop : t.mark % 2 = 0 → low.mark / 2 = t.mark / 2 → Al1 tu u
 go : t.mark % 2 = 0 → low.mark / 2 < t.mark / 2 → Rb u
 red : t.mark % 2 = 1 → low.mark / 2 < t.mark / 2 → Al1 tu u
theorem joinR_fit (tu : Bool) {d : It} : ∀ (f : Nat) {S : St} {o : Nat → Nat} {t low : Tr} {n0 : Nd}, Fit S o → At S t → At S low → Rb t → Rb low → reco S d.h = some (ndWords n0) → n0.key = d.kh → n0.val = d.vh →
 (t.hs ++ d.h :: low.hs).Nodup → t.its.length + low.its.length < 9000 → t.its.length ≤ f → low.mark / 2 ≤ t.mark / 2 →
 ∃ u S', joinR tu d.h f S t.root low.root = some (u.root, S') ∧ Did S S' o (t.hs ++ d.h :: low.hs) u ∧ u.its = itsT tu t.its d low.its ∧ Joined tu t low u
 | 0, S, o, t, low, n0, hf, ht, hlo, rt, rl, hd, hk0, hv0, hnd, hlen, hfu, hb => by
  have ht0 : t = nil := by
   cases t with
   | nil => rfl
   | node l d m r => simp [its] at hfu
  subst ht0
  obtain ⟨h1, h2, h3, h4, h5⟩ := split3 hnd
  obtain ⟨S1, e1, f1, a1, o1, g1⟩ := pj_fit hf tu true ht hlo hd hk0 hv0 h3 h4 (rt.sr (by simp [its])) (rl.sr (by omega)) (by have : nil.mark = 0 := rfl; omega)
  refine ⟨_, S1, ?_, ⟨f1, a1, fun y hy => o1 y fun e => hy (by rw [e]; simp), g1⟩, ?_, ?_⟩
  · rw [joinR_zero, e1, nt_root]; rfl
  · rw [nt_its]; rfl
  · have h0 : nil.mark = 0 := rfl
    have hal : Al1 tu (nt tu nil d (nil.mark / 2 * 2 + (if true then 1 else 2)) low) := ⟨nil, d, _, low, rfl, rt, rl, rfl, by omega, rfl⟩
    exact ⟨by rw [nt_mark]; rfl, Or.inr hal.two, fun _ _ => hal, fun _ q => by omega, fun q => by omega⟩
 | f + 1, S, o, t, low, n0, hf, ht, hlo, rt, rl, hd, hk0, hv0, hnd, hlen, hfu, hb => by
  have q1 := ht.red hf
  have q2 := ht.black hf
  have q3 := hlo.black hf
  rw [joinR_succ, q1, q2, q3]
  obtain ⟨h1, h2, h3, h4, h5⟩ := split3 hnd
  by_cases c1 : t.mark % 2 = 0 ∧ t.mark / 2 = low.mark / 2
  · rw [if_pos (by simp; omega)]
    obtain ⟨S1, e1, f1, a1, o1, g1⟩ := pj_fit hf tu true ht hlo hd hk0 hv0 h3 h4 (rt.sr (by omega)) (rl.sr (by omega)) c1.2
    refine ⟨_, S1, ?_, ⟨f1, a1, fun y hy => o1 y fun e => hy (by rw [e]; simp), g1⟩, ?_, ?_⟩
    · rw [e1, nt_root]; rfl
    · rw [nt_its]; rfl
    · have hal : Al1 tu (nt tu t d (t.mark / 2 * 2 + (if true then 1 else 2)) low) := ⟨t, d, _, low, rfl, rt, rl, c1.1, c1.2, rfl⟩
      exact ⟨by rw [nt_mark]; simp; omega, Or.inr hal.two, fun _ _ => hal, fun _ q => by omega, fun q => by omega⟩
  · rw [if_neg (by simp; omega)]
    have hne : t.mark ≠ 0 := by omega
    obtain ⟨oth, e, m, own, rfl, ro, rw', hbh, hcol⟩ := rt.node_nt tu hne
    rw [nt_mark] at hb c1 hne
    have hs := nt_sides hf ht
    obtain ⟨hao, haw, n1, hn1, hk1, hv1⟩ := nt_at ht
    rw [nt_nodup] at h1
    obtain ⟨d1, d2, d3, d4, d5⟩ := split3 h1
    simp only [nt_mem, not_or] at h3 h5
    rw [nt_len] at hlen hfu
    have hnd2 : (own.hs ++ d.h :: low.hs).Nodup := join3 d2 h2 h3.2.2 h4 fun y hy => h5 y (Or.inr (Or.inr hy))
    obtain ⟨x, S1, e1, D1, i1, J1⟩ := joinR_fit tu f hf haw hlo rw' rl hd hk0 hv0 hnd2 (by omega) (by omega) (by rcases hcol with g | g <;> omega)
    have hxh : ∀ y, y ∈ x.hs ↔ y ∈ own.hs ∨ y = d.h ∨ y ∈ low.hs := fun y => by
     unfold Tr.hs
     rw [i1]
     unfold itsT
     cases tu <;> simp <;> constructor <;> rintro (g | g | g) <;> simp_all
    have hxl : x.its.length = own.its.length + low.its.length + 1 := by rw [i1]; unfold itsT; cases tu <;> simp <;> omega
    have hxn : x.hs.Nodup := by
     have e : x.hs = if tu = true then low.hs ++ d.h :: own.hs else own.hs ++ d.h :: low.hs := by
      unfold Tr.hs; rw [i1]; unfold itsT; cases tu <;> simp
     rw [e]
     cases tu
     · exact hnd2
     · obtain ⟨g1, g2, g3, g4, g5⟩ := split3 hnd2
       exact join3 g2 g1 g4 g3 fun y hy hm => g5 y hm hy
    have hat1 : At S1 oth := hao.frame fun y hy => D1.other y fun hm => by
     rcases List.mem_append.1 hm with hm | hm
     · exact d5 y hy hm
     · rcases List.mem_cons.1 hm with hm | hm
       · exact h3.1 (hm ▸ hy)
       · exact h5 y (Or.inl hy) hm
    have hde : d.h ≠ e.h := h3.2.1
    have hel : e.h ∉ low.hs := h5 _ (Or.inr (Or.inl rfl))
    have he1 : reco S1 e.h = some (ndWords n1) := (D1.other _ fun hm => by
     rcases List.mem_append.1 hm with hm | hm
     · exact d4 hm
     · rcases List.mem_cons.1 hm with hm | hm
       · exact hde hm.symm
       · exact hel hm).trans hn1
    have hex : e.h ∉ x.hs := by
     rw [hxh]; simp only [not_or]; exact ⟨d4, fun q => hde q.symm, hel⟩
    have sx : Sr x := by
     refine ⟨?_, by omega⟩
     have := J1.bh
     have := rw'.mark_le
     omega
    obtain ⟨S2, e2, f2, a2, o2, g2⟩ := pj_fit D1.fit tu (decide (m % 2 = 1)) hat1 D1.at' he1 hk1 hv1 d3 hex (ro.sr (by omega)) sx (by rw [J1.bh]; exact hbh)
    have hdx : ∀ y ∈ oth.hs, y ∉ x.hs := fun y hy hm => by
     rcases (hxh y).1 hm with hm | hm | hm
     · exact d5 y hy hm
     · exact h3.1 (hm ▸ hy)
     · exact h5 y (Or.inl hy) hm
    rw [nt_root, hs]
    simp only
    rw [e1]
    simp only
    rw [nt_mark, e2]
    simp only
    have hins : ∀ y, y ∉ (nt tu oth e m own).hs ++ d.h :: low.hs → y ≠ e.h ∧ y ∉ own.hs ++ d.h :: low.hs := fun y hy => by
     simp only [List.mem_append, List.mem_cons, nt_mem, not_or] at hy ⊢
     exact ⟨hy.1.2.1, hy.1.2.2, hy.2⟩
    by_cases c2 : m % 2 = 1
    · have hm : m = oth.mark / 2 * 2 + 1 ∧ oth.mark % 2 = 0 ∧ own.mark % 2 = 0 := by rcases hcol with g | g <;> omega
      have hdc : decide (m % 2 = 1) = true := decide_eq_true c2
      rw [hdc] at a2 ⊢
      refine ⟨nt tu oth e (oth.mark / 2 * 2 + (if true then 1 else 2)) x, S2, ?_, ⟨f2, a2, fun y hy => (o2 y (hins y hy).1).trans (D1.other y (hins y hy).2), D1.grew.trans g2⟩, ?_, ?_⟩
      · unfold fixR
        rw [if_pos (Or.inl rfl), nt_root]
        exact chk_ok (look_ok f2 (nt_at a2).2.2.choose_spec.1).2.1
      · rw [nt_its, i1, nt_its]; unfold itsT; cases tu <;> simp
      · refine ⟨by rw [nt_mark, nt_mark]; simp; omega, ?_, ?_, ?_, ?_⟩
        · right
          refine ⟨oth, e, _, x, rfl, ro, ?_, hm.2.1, by rw [J1.bh]; exact hbh, rfl⟩
          rcases Nat.lt_or_ge (low.mark / 2) (own.mark / 2) with g | g
          · exact Or.inl (J1.go hm.2.2 g)
          · exact Or.inr (J1.stop hm.2.2 (by omega))
        · intro q; rw [nt_mark] at q; omega
        · intro q; rw [nt_mark] at q; omega
        · intro _ q
          rw [nt_mark] at q
          exact ⟨oth, e, _, x, rfl, ro, J1.go hm.2.2 (by omega), hm.2.1, by rw [J1.bh]; exact hbh, rfl⟩
    · have hm : m = oth.mark / 2 * 2 + 2 := by rcases hcol with g | g <;> omega
      have hdc : decide (m % 2 = 1) = false := decide_eq_false c2
      rw [hdc] at a2 ⊢
      have a2' : At S2 (nt tu oth e (oth.mark / 2 * 2 + 2) x) := a2
      obtain ⟨u, S3, e3, D3, i3, r3, b3⟩ := fix_fit f2 a2' (by rw [nt_nodup]; exact join3 d1 hxn d3 hex hdx) (by rw [nt_len]; omega) ro J1.all (by rw [J1.bh]; exact hbh)
      refine ⟨u, S3, ?_, ⟨D3.fit, D3.at', fun y hy => ?_, (D1.grew.trans g2).trans D3.grew⟩, ?_, ?_⟩
      · rw [e3]; exact chk_ok (D3.at'.root_lt D3.fit)
      · refine (D3.other y ?_).trans ((o2 y (hins y hy).1).trans (D1.other y (hins y hy).2))
        rw [nt_mem]
        simp only [List.mem_append, List.mem_cons, nt_mem, not_or] at hy ⊢
        refine ⟨hy.1.1, hy.1.2.1, ?_⟩
        rw [hxh]
        simp only [not_or]
        exact ⟨hy.1.2.2, hy.2⟩
      · rw [i3, nt_its, i1, nt_its]; unfold itsT; cases tu <;> simp
      · refine ⟨by rw [b3, nt_mark]; omega, Or.inl r3, fun _ q => ?_, fun _ _ => r3, fun q => ?_⟩
        · rw [nt_mark] at q; omega
        · rw [nt_mark] at q; omega
theorem topR_fit (tu : Bool) {d : It} {S : St} {o : Nat → Nat} {t low : Tr} {n0 : Nd} (hf : Fit S o) (ht : At S t) (hlo : At S low) (rt : Rb t) (rl : Rb low) (hd : reco S d.h = some (ndWords n0)) (hk0 : n0.key = d.kh) (hv0 : n0.val = d.vh)
 (hnd : (t.hs ++ d.h :: low.hs).Nodup) (hlen : t.its.length + low.its.length < 99) (hb : low.mark / 2 < t.mark / 2) :
 ∃ u S', topR tu S t.root d.h low.root = some (u.root, S') ∧ Did S S' o (t.hs ++ d.h :: low.hs) u ∧ Rb u ∧ u.its = itsT tu t.its d low.its := by
 obtain ⟨u, S1, e1, D1, i1, J1⟩ := joinR_fit tu 200 hf ht hlo rt rl hd hk0 hv0 hnd (by omega) (by omega) (by omega)
 have q1 := D1.at'.red D1.fit
 unfold topR
 rw [e1]
 simp only
 rw [q1]
 by_cases c1 : u.mark % 2 = 1
 · have hal : Al1 tu u := by
    by_cases c0 : t.mark % 2 = 0
    · exact al1_of (Or.inl (J1.go c0 hb)) c1
    · exact J1.red (by omega) hb
   obtain ⟨a, e, m, b, rfl, ra, rb, ea, eb, em⟩ := hal
   have hs := nt_sides D1.fit D1.at'
   obtain ⟨ha, hb', n1, hn1, hk1, hv1⟩ := nt_at D1.at'
   rw [nt_root, hs]
   simp only
   rw [hb'.red D1.fit]
   by_cases c2 : b.mark % 2 = 1
   · have hnu : (nt tu a e m b).hs.Nodup := by
      have q : (nt tu a e m b).hs = if tu = true then low.hs ++ d.h :: t.hs else t.hs ++ d.h :: low.hs := by
       unfold Tr.hs; rw [i1]; unfold itsT; cases tu <;> simp
      rw [q]
      cases tu
      · exact hnd
      · obtain ⟨g1, g2, g3, g4, g5⟩ := split3 hnd
        exact join3 g2 g1 g4 g3 fun y hy hm => g5 y hm hy
     have hul : (nt tu a e m b).its.length < 200 := by rw [i1]; unfold itsT; cases tu <;> simp <;> omega
     rw [nt_len] at hul
     rw [nt_nodup] at hnu
     obtain ⟨_, _, g3, g4, g5⟩ := split3 hnu
     obtain ⟨S2, e2, f2, a2, o2, w2⟩ := pj_fit D1.fit tu false ha hb' hn1 hk1 hv1 g3 g4 (ra.sr (by omega)) (rb.sr (by omega)) eb
     have hme : ∀ y, y ∉ t.hs ++ d.h :: low.hs → y ≠ e.h := fun y hy q => by
      have : e.h ∈ (nt tu a e m b).hs := by rw [nt_mem]; exact Or.inr (Or.inl rfl)
      have q2 : (nt tu a e m b).hs = if tu = true then low.hs ++ d.h :: t.hs else t.hs ++ d.h :: low.hs := by
       unfold Tr.hs; rw [i1]; unfold itsT; cases tu <;> simp
      rw [q2, ← q] at this
      cases tu
      · exact hy this
      · refine hy ?_
        have this : y ∈ low.hs ++ d.h :: t.hs := this
        simp only [List.mem_append, List.mem_cons] at this ⊢
        rcases this with h | h | h
        · exact Or.inr (Or.inr h)
        · exact Or.inr (Or.inl h)
        · exact Or.inl h
     refine ⟨nt tu a e (a.mark / 2 * 2 + (if false then 1 else 2)) b, S2, ?_, ⟨f2, a2, fun y hy => (o2 y (hme y hy)).trans (D1.other y hy), D1.grew.trans w2⟩, RbN.nt ⟨ra, rb, eb, Or.inr rfl⟩, ?_⟩
     · rw [nt_mark, if_pos (by simp; omega), e2, nt_root]; rfl
     · rw [← i1, nt_its, nt_its]
   · refine ⟨nt tu a e m b, S1, ?_, D1, RbN.nt ⟨ra, rb, eb, Or.inl ⟨em, ea, by omega⟩⟩, i1⟩
     rw [if_neg (by simp; omega), nt_root]
 · refine ⟨u, S1, ?_, D1, ?_, i1⟩
   · rw [if_neg (by simp; omega)]
   · rcases J1.all with h | h
     · exact h
     · have := h.odd; omega
theorem jspec_red : JSpec redJ Rb where
 nil := trivial
 sub h := ⟨h.1, h.2.1⟩
 join := by
  intro S o l r d n0 hf hl hr bl br hd hk0 hv0 hnd hlen
  have hd0 := (look_ok hf hd).1
  have q1 := hl.black hf
  have q2 := hr.black hf
  have h0 : ¬ (d.h = 0 ∨ isT S l.root = false ∨ isT S d.h = false ∨ isT S r.root = false) := by
   rw [hl.isT hf, hr.isT hf]
   have : isT S d.h = true := by unfold isT; rw [getNode_look hf hd]; simp
   rw [this]
   simp; omega
  unfold redJ
  rw [if_neg h0, q1, q2]
  obtain ⟨g1, g2, g3, g4, g5⟩ := split3 hnd
  by_cases c1 : r.mark / 2 < l.mark / 2
  · rw [if_pos c1]
    obtain ⟨u, S1, e1, D1, r1, i1⟩ := topR_fit false hf hl hr bl br hd hk0 hv0 hnd hlen c1
    exact ⟨u, S1, by rw [e1]; rfl, D1, r1, i1⟩
  · rw [if_neg c1]
    by_cases c2 : l.mark / 2 < r.mark / 2
    · rw [if_pos c2]
      obtain ⟨u, S1, e1, D1, r1, i1⟩ := topR_fit true hf hr hl br bl hd hk0 hv0 (join3 g2 g1 g4 g3 fun y hy hm => g5 y hm hy) (by omega) c2
      refine ⟨u, S1, by rw [e1]; rfl, ⟨D1.fit, D1.at', fun y hy => D1.other y fun hm => hy ?_, D1.grew⟩, r1, i1⟩
      simp only [List.mem_append, List.mem_cons] at hm ⊢
      rcases hm with h | h | h
      · exact Or.inr (Or.inr h)
      · exact Or.inr (Or.inl h)
      · exact Or.inl h
    · rw [if_neg c2, hl.red hf, hr.red hf]
      obtain ⟨S1, e1, f1, a1, o1, w1⟩ := put_fit hf (!decide (l.mark % 2 = 1) && !decide (r.mark % 2 = 1)) hl hr hd hk0 hv0 g3 g4 (bl.sr (by omega)) (br.sr (by omega))
      refine ⟨_, S1, by rw [e1]; rfl, ⟨f1, a1, fun y hy => o1 y fun e => hy (by rw [e]; simp), w1⟩, ⟨bl, br, by omega, ?_⟩, rfl⟩
      by_cases a1 : l.mark % 2 = 1
      · right; simp [a1]
      · by_cases a2 : r.mark % 2 = 1
        · right; simp [a2]
        · left
          have b1 : l.mark % 2 = 0 := by omega
          have b2 : r.mark % 2 = 0 := by omega
          simp [b1, b2]
end Tr
