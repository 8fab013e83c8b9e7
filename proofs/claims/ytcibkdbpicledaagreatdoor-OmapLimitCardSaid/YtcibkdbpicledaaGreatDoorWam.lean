import Derived.Test.YtcibkdbpicledaaGreatDoorWal
set_option maxRecDepth 100000
set_option maxHeartbeats 6400000
namespace Go.Proofs.YtcibkdbpicledaaGreatDoor
open Go.RowKit Go.BigFrame Go.Maps Go.WideMaps Lf
theorem cut_split {ps : Nat} {j c : FuncId} {jn : Jn} (hjn : JoinsAs j jn) (key : List UInt8) : ∀ (f d : Nat), d + f = 200 → ∀ {w : World} {S S' : St} {Y : Nat → Prop} {root l m r : Nat}, StOn w ps S Y → Inv S → root < 18446744073709551616 →
 splitM jn key f S root = some ((l, m, r), S') →
 (Calls Tryz.prog 301 #[cutV ps j c, .int .u64 root, SV key, .int .i64 d] w fun e w' => e = .returned (.tuple #[.int .u64 l, .int .u64 m, .int .u64 r]) ∧ StOn w' ps S' Y ∧ Keep Y w w') ∧ Inv S' ∧ l < 18446744073709551616 ∧ m < 18446744073709551616 ∧ r < 18446744073709551616 := by
 intro f
 induction f with
 | zero =>
  intro d hd w S S' Y root l m r h hi hl hs
  obtain rfl : d = 200 := by omega
  rw [splitM_zero] at hs
  have hs := Option.some.inj hs
  injection hs with e1 e2
  injection e1 with e1 e3
  injection e3 with e3 e4
  subst e1 e2 e3 e4
  refine ⟨?_, hi, by decide, by decide, by decide⟩
  have HG := kq2 (h.below ((Below.refl w.heap.size w).alloc (Nat.le_refl _) (.cells #[PV ps, .func (.func j) #[] #[], .func (.func c) #[] #[]] 265))) (h.keep ((Below.refl w.heap.size w).alloc (Nat.le_refl _) (.cells #[PV ps, .func (.func j) #[] #[], .func (.func c) #[] #[]] 265)))
  simp only [cutV, fnV]
  clear h hi hd hjn
  go_enter Tryz.func301, Tryz.ntmps301
  go_wp2_with fail
  all_goals (go_ret3; exact ⟨rfl, HG.out⟩)
 | succ f ih =>
  intro d hd w S S' Y root l m r h hi hl hs
  rw [splitM_succ] at hs
  split at hs
  · rename_i h0
    subst h0
    have hs := Option.some.inj hs
    injection hs with e1 e2
    injection e1 with e1 e3
    injection e3 with e3 e4
    subst e1 e2 e3 e4
    refine ⟨?_, hi, by decide, by decide, by decide⟩
    have HG := kq2 (h.below ((Below.refl w.heap.size w).alloc (Nat.le_refl _) (.cells #[PV ps, .func (.func j) #[] #[], .func (.func c) #[] #[]] 265))) (h.keep ((Below.refl w.heap.size w).alloc (Nat.le_refl _) (.cells #[PV ps, .func (.func j) #[] #[], .func (.func c) #[] #[]] 265)))
    simp only [cutV, fnV]
    clear h hi hd hjn ih
    go_enter Tryz.func301, Tryz.ntmps301
    go_wp2_with fail
    all_goals (go_ret3; exact ⟨rfl, HG.out⟩)
  · rename_i h0
    split at hs
    · cases hs
    rename_i k hk
    have hq : ((root : Int) == 0) = false := by simp; omega
    have hdq : ((d : Int) == 200) = false := by simp; omega
    have hdw : IntKind.i64.wrap ((d : Int) + 1) = (d : Int) + 1 := IntWalk.i64_in _ (by omega)
    have hlt := getNode_lt h root
    have q0 := heap_alloc_new w (.cells #[PV ps, fnV j, fnV c] 265)
    have B0 := (Below.refl w.heap.size w).alloc (Nat.le_refl _) (.cells #[PV ps, fnV j, fnV c] 265)
    have hkey := fun W (hW : Below w.heap.size w W) => cut_key (j := j) (c := c) (h.below hW) hi root hl hk
    have hcmp := fun W => text_compare key k W
    split at hs
    · rename_i hc
      have hq5 : (cmpB key k < 0) = True := eq_true hc
      split at hs
      · cases hs
      rename_i l1 m1 r1 S1 h1
      obtain ⟨⟨x, S2⟩, hj1, he⟩ := Option.map_eq_some_iff.1 hs
      injection he with e1 e2
      injection e1 with e1 e3
      injection e3 with e3 e4
      simp only at e1 e3 e4 hj1
      subst e1 e2 e3 e4
      have hrec := fun W Z (hW : StOn W ps S Z) => (ih (d + 1) (by omega) hW hi hlt.left h1).1
      obtain ⟨-, hi1, hl1, hm1, hr1⟩ := ih (d + 1) (by omega) h hi hlt.left h1
      have hjs := cjoinM_some hjn hj1
      have hjoin := fun W Z (hW : StOn W ps S1 Z) => cut_join (c := c) hW hi1 hjn r1 root (getNode S root).1.right hr1 hl hlt.right hj1
      refine ⟨?_, hjn.inv hi1 hjs, hl1, hm1, (by have q := hjn.lt hi1 (by first | exact hl | exact hr1 | exact hlt.right) (by first | exact hl | exact hr1 | exact hlt.right) (by first | exact hl | exact hr1 | exact hlt.right) hjs; exact q)⟩
      obtain ⟨⟨⟨k0, k1, k2, k3, k4, k5⟩, er⟩, hE⟩ : ∃ q, getNode S root = q := ⟨_, rfl⟩
      rw [hE] at hkey hlt hrec hjoin
      simp only at hlt hrec hjoin
      simp only [cutV, fnV, ndV] at q0 B0 hkey hrec hjoin ⊢
      have HG := kq7 hkey hcmp q0 B0 hrec hjoin h
      clear hkey hcmp q0 B0 hrec hjoin h hi hE hk h1 hs hj1 hi1 hjn ih hd h0 hlt hl1 hm1 hr1 hjs hl
      go_enter Tryz.func301, Tryz.ntmps301
      go_wp2_with fail
      refine (HG.out.1 _ HG.out.2.2.2.1).mono ?_
      rintro e w1 ⟨rfl, hb1⟩
      have hal := hb1.alloc hb1.size (.cells #[.int .u64 k0, .int .u64 k1, .int .u64 k2, .int .u64 k3, .int .u64 k4, .int .u64 k5] 232)
      have q2 := heap_alloc_new w1 (.cells #[.int .u64 k0, .int .u64 k1, .int .u64 k2, .int .u64 k3, .int .u64 k4, .int .u64 k5] 232)
      have r2 := (hal.block w.heap.size (by simp)).trans HG.out.2.2.1
      have hlt1 : w.heap.size ≤ w1.heap.size := by have := hb1.size; simp at this; omega
      have B2 := HG.out.2.2.2.1.trans (hal.mono HG.out.2.2.2.1.size)
      go_wp2_with fail
      generalize w1.alloc (.cells #[.int .u64 k0, .int .u64 k1, .int .u64 k2, .int .u64 k3, .int .u64 k4, .int .u64 k5] 232) = W at *
      generalize w1.heap.size = b12 at *
      refine (HG.out.2.1 _).mono ?_
      rintro e w2 ⟨rfl, rfl⟩
      obtain ⟨c0, c1, c2⟩ := cells3 r2
      obtain ⟨d0, d1, d2, d3, d4, d5⟩ := cells6 q2
      have l8 := (gl r2)
      have l12 := (gl q2)
      have H2 := kq3 B2 r2 q2
      have hle12 := Lib.hid hlt1
      clear hb1 hal q2 r2 B2 hlt1
      go_wp2_with fail
      refine (HG.out.2.2.2.2.1 _ _ (HG.out.2.2.2.2.2.2.wide H2.out.1)).mono ?_
      rintro e w3 ⟨rfl, h3, k3'⟩
      have r3 := (k3'.block w.heap.size (Or.inr ⟨Nat.le_refl _, l8⟩)).trans H2.out.2.1
      have q3 := (k3'.block b12 (Or.inr ⟨hle12.out, l12⟩)).trans H2.out.2.2
      obtain ⟨e0, e1, e2⟩ := cells3 r3
      obtain ⟨g0, g1, g2, g3, g4, g5⟩ := cells6 q3
      have H3 := kq2 h3 k3'
      clear h3 k3' r3 q3 c0 c1 c2 d0 d1 d2 d3 d4 d5
      go_wp2_with fail
      refine (HG.out.2.2.2.2.2.1 _ _ H3.out.1).mono ?_
      rintro e w4 ⟨rfl, h4, k4'⟩
      have H4 := kq2 (h4.mono (Z := Y) fun k hk => Or.inl hk) ((Keep.of_below H2.out.1 HG.out.2.2.2.2.2.2.yl).trans ((H3.out.2.trans k4').mono fun k hk => Or.inl hk))
      clear h4 k4' e0 e1 e2 g0 g1 g2 g3 g4 g5
      go_wp2_with fail
      go_ret3
      exact ⟨rfl, H4.out⟩
    · rename_i hc
      split at hs
      · rename_i hc2
        have hq5 : (cmpB key k < 0) = False := eq_false hc
        have hq8 : (0 < cmpB key k) = True := eq_true hc2
        split at hs
        · cases hs
        rename_i l1 m1 r1 S1 h1
        obtain ⟨⟨x, S2⟩, hj1, he⟩ := Option.map_eq_some_iff.1 hs
        injection he with e1 e2
        injection e1 with e1 e3
        injection e3 with e3 e4
        simp only at e1 e3 e4 hj1
        subst e1 e2 e3 e4
        have hrec := fun W Z (hW : StOn W ps S Z) => (ih (d + 1) (by omega) hW hi hlt.right h1).1
        obtain ⟨-, hi1, hl1, hm1, hr1⟩ := ih (d + 1) (by omega) h hi hlt.right h1
        have hjs := cjoinM_some hjn hj1
        have hjoin := fun W Z (hW : StOn W ps S1 Z) => cut_join (c := c) hW hi1 hjn (getNode S root).1.left root l1 hlt.left hl hl1 hj1
        refine ⟨?_, hjn.inv hi1 hjs, (by have q := hjn.lt hi1 (by first | exact hl | exact hl1 | exact hlt.left) (by first | exact hl | exact hl1 | exact hlt.left) (by first | exact hl | exact hl1 | exact hlt.left) hjs; exact q), hm1, hr1⟩
        obtain ⟨⟨⟨k0, k1, k2, k3, k4, k5⟩, er⟩, hE⟩ : ∃ q, getNode S root = q := ⟨_, rfl⟩
        rw [hE] at hkey hlt hrec hjoin
        simp only at hlt hrec hjoin
        simp only [cutV, fnV, ndV] at q0 B0 hkey hrec hjoin ⊢
        have HG := kq7 hkey hcmp q0 B0 hrec hjoin h
        clear hkey hcmp q0 B0 hrec hjoin h hi hE hk h1 hs hj1 hi1 hjn ih hd h0 hlt hl1 hm1 hr1 hjs hl
        go_enter Tryz.func301, Tryz.ntmps301
        go_wp2_with fail
        refine (HG.out.1 _ HG.out.2.2.2.1).mono ?_
        rintro e w1 ⟨rfl, hb1⟩
        have hal := hb1.alloc hb1.size (.cells #[.int .u64 k0, .int .u64 k1, .int .u64 k2, .int .u64 k3, .int .u64 k4, .int .u64 k5] 232)
        have q2 := heap_alloc_new w1 (.cells #[.int .u64 k0, .int .u64 k1, .int .u64 k2, .int .u64 k3, .int .u64 k4, .int .u64 k5] 232)
        have r2 := (hal.block w.heap.size (by simp)).trans HG.out.2.2.1
        have hlt1 : w.heap.size ≤ w1.heap.size := by have := hb1.size; simp at this; omega
        have B2 := HG.out.2.2.2.1.trans (hal.mono HG.out.2.2.2.1.size)
        go_wp2_with fail
        generalize w1.alloc (.cells #[.int .u64 k0, .int .u64 k1, .int .u64 k2, .int .u64 k3, .int .u64 k4, .int .u64 k5] 232) = W at *
        generalize w1.heap.size = b12 at *
        refine (HG.out.2.1 _).mono ?_
        rintro e w2 ⟨rfl, rfl⟩
        obtain ⟨c0, c1, c2⟩ := cells3 r2
        obtain ⟨d0, d1, d2, d3, d4, d5⟩ := cells6 q2
        have l8 := (gl r2)
        have l12 := (gl q2)
        have H2 := kq3 B2 r2 q2
        have hle12 := Lib.hid hlt1
        clear hb1 hal q2 r2 B2 hlt1
        go_wp2_with fail
        refine (HG.out.2.2.2.2.1 _ _ (HG.out.2.2.2.2.2.2.wide H2.out.1)).mono ?_
        rintro e w3 ⟨rfl, h3, k3'⟩
        have r3 := (k3'.block w.heap.size (Or.inr ⟨Nat.le_refl _, l8⟩)).trans H2.out.2.1
        have q3 := (k3'.block b12 (Or.inr ⟨hle12.out, l12⟩)).trans H2.out.2.2
        obtain ⟨e0, e1, e2⟩ := cells3 r3
        obtain ⟨g0, g1, g2, g3, g4, g5⟩ := cells6 q3
        have H3 := kq2 h3 k3'
        clear h3 k3' r3 q3 c0 c1 c2 d0 d1 d2 d3 d4 d5
        go_wp2_with fail
        refine (HG.out.2.2.2.2.2.1 _ _ H3.out.1).mono ?_
        rintro e w4 ⟨rfl, h4, k4'⟩
        have H4 := kq2 (h4.mono (Z := Y) fun k hk => Or.inl hk) ((Keep.of_below H2.out.1 HG.out.2.2.2.2.2.2.yl).trans ((H3.out.2.trans k4').mono fun k hk => Or.inl hk))
        clear h4 k4' e0 e1 e2 g0 g1 g2 g3 g4 g5
        go_wp2_with fail
        go_ret3
        exact ⟨rfl, H4.out⟩
      · rename_i hc2
        have hq5 : (cmpB key k < 0) = False := eq_false hc
        have hq8 : (0 < cmpB key k) = False := eq_false hc2
        have hs := Option.some.inj hs
        injection hs with e1 e2
        injection e1 with e1 e3
        injection e3 with e3 e4
        subst e1 e2 e3 e4
        refine ⟨?_, hi, hlt.left, hl, hlt.right⟩
        have hrec := True.intro
        have hjoin := True.intro
        obtain ⟨⟨⟨k0, k1, k2, k3, k4, k5⟩, er⟩, hE⟩ : ∃ q, getNode S root = q := ⟨_, rfl⟩
        rw [hE] at hkey hlt ⊢
        simp only at hlt ⊢
        simp only [cutV, fnV, ndV] at q0 B0 hkey ⊢
        have HG := kq5 hkey hcmp q0 B0 h
        clear hkey hcmp q0 B0 hrec hjoin h hi hE hk hjn ih hd h0 hlt hl
        go_enter Tryz.func301, Tryz.ntmps301
        go_wp2_with fail
        refine (HG.out.1 _ HG.out.2.2.2.1).mono ?_
        rintro e w1 ⟨rfl, hb1⟩
        have hal := hb1.alloc hb1.size (.cells #[.int .u64 k0, .int .u64 k1, .int .u64 k2, .int .u64 k3, .int .u64 k4, .int .u64 k5] 232)
        have q2 := heap_alloc_new w1 (.cells #[.int .u64 k0, .int .u64 k1, .int .u64 k2, .int .u64 k3, .int .u64 k4, .int .u64 k5] 232)
        have r2 := (hal.block w.heap.size (by simp)).trans HG.out.2.2.1
        have hlt1 : w.heap.size ≤ w1.heap.size := by have := hb1.size; simp at this; omega
        have B2 := HG.out.2.2.2.1.trans (hal.mono HG.out.2.2.2.1.size)
        go_wp2_with fail
        generalize w1.alloc (.cells #[.int .u64 k0, .int .u64 k1, .int .u64 k2, .int .u64 k3, .int .u64 k4, .int .u64 k5] 232) = W at *
        generalize w1.heap.size = b12 at *
        refine (HG.out.2.1 _).mono ?_
        rintro e w2 ⟨rfl, rfl⟩
        obtain ⟨c0, c1, c2⟩ := cells3 r2
        obtain ⟨d0, d1, d2, d3, d4, d5⟩ := cells6 q2
        have l8 := (gl r2)
        have l12 := (gl q2)
        have H2 := kq3 B2 r2 q2
        have hle12 := Lib.hid hlt1
        clear hb1 hal q2 r2 B2 hlt1
        go_wp2_with fail
        go_quiet (fail)
        go_wp2_with fail
        go_ret3
        exact ⟨rfl, HG.out.2.2.2.2.below (H2.out.1.trans ⟨rfl, rfl, rfl, Nat.le_refl _, fun _ _ => rfl⟩), HG.out.2.2.2.2.keep (H2.out.1.trans ⟨rfl, rfl, rfl, Nat.le_refl _, fun _ _ => rfl⟩)⟩
def Lf.insertOkM (jn : Jn) (S : St) (root m : Nat) : Option ((Nat × Nat) × St) :=
 if isT S root = false ∨ isT S m = false ∨ m = 0 ∨ (getBlob S (getNode S m).1.key).2 ≠ 0 then none
 else match splitM jn (getBlob S (getNode S m).1.key).1 200 S root with
  | none => none
  | some ((l, old, r), S1) => (cjoinM jn S1 l m r).map fun x => ((x.1, old), x.2)
theorem parts_insert {w : World} {ps : Nat} {S S' : St} {Y : Nat → Prop} (h : StOn w ps S Y) (hi : Inv S) {kind : Nat} {j c : FuncId} {jn : Jn} (hjn : JoinsAs j jn) (hk : WayOk kind j c) (root m : Nat) (hl : root < 18446744073709551616) (hm : m < 18446744073709551616) {R : Nat × Nat} (hR : insertOkM jn S root m = some (R, S')) :
 (Calls Tryz.prog 296 #[PV ps, .int .i64 kind, .int .u64 root, .int .u64 m] w fun e w' => e = .returned (.tuple #[.int .u64 R.1, .int .u64 R.2, .int .i64 0]) ∧ StOn w' ps S' Y ∧ Keep Y w w') ∧ Inv S' ∧ R.1 < 18446744073709551616 ∧ R.2 < 18446744073709551616 := by
 unfold insertOkM at hR
 split at hR
 · cases hR
 rename_i hc
 simp only [not_or, Bool.not_eq_false, Decidable.not_not] at hc
 obtain ⟨t1, t2, m0, hg0⟩ := hc
 split at hR
 · cases hR
 rename_i l old r S1 hs
 obtain ⟨⟨x, S2⟩, hj1, he⟩ := Option.map_eq_some_iff.1 hR
 injection he with e1 e2
 simp only at e1 e2 hj1
 subst e1 e2
 have hlt := getNode_lt h m
 obtain ⟨-, hi1, hl1, hold, hr1⟩ := cut_split (c := c) hjn _ 200 0 rfl h hi hl hs
 have hsp := fun W Z (hW : StOn W ps S Z) => (cut_split (c := c) hjn _ 200 0 rfl hW hi hl hs).1
 have hjs := cjoinM_some hjn hj1
 have hjo := fun W Z (hW : StOn W ps S1 Z) => cut_join (c := c) hW hi1 hjn l m r hl1 hm hr1 hj1
 refine ⟨?_, hjn.inv hi1 hjs, (by have q := hjn.lt hi1 (by first | exact hm | exact hl1 | exact hr1) (by first | exact hm | exact hl1 | exact hr1) (by first | exact hm | exact hl1 | exact hr1) hjs; exact q), hold⟩
 have hg := fun W (hW : Below w.heap.size w W) => node_get (h.below hW) hi m hm
 have hb := fun W (hW : Below w.heap.size w W) => blob_get (h.below hW) hi (getNode S m).1.key hlt.key (by rw [hg0]; decide)
 have hw := fun W (hW : Below w.heap.size w W) rb t fr hrb => asked_two (t := t) (fr := fr) (h.below hW) hi hk root m hl hm t1 t2 rb hrb
 rw [hg0] at hb
 generalize (getBlob S (getNode S m).1.key).1 = key at *
 obtain ⟨⟨⟨k0, k1, k2, k3, k4, k5⟩, er⟩, hE⟩ : ∃ q, getNode S m = q := ⟨_, rfl⟩
 rw [hE] at hg hb
 simp only [cutV, fnV, ndV] at hg hb hw hsp hjo ⊢
 have hmq : ((m : Int) == 0) = false := by simp; omega
 have HG := kq6 hg hb hw hsp hjo h
 clear hg hb hw hsp hjo h hi hE hjn hk hR t1 t2 m0 hg0 hs hj1 hlt hi1 hl1 hold hr1 hjs
 go_enter Tryz.func296, Tryz.ntmps296
 go_wp2_with fail
 refine (HG.out.2.2.1 _ ((Below.refl _ w).alloc (Nat.le_refl _) _) _ _ _ (heap_alloc_new w _)).mono ?_
 rintro e w1 ⟨rfl, hb1⟩
 have B1 := ((Below.refl w.heap.size w).alloc (Nat.le_refl _) (.cells #[.int .u64 root, .int .u64 m] 83)).trans (hb1.mono (by simp))
 have q1 := heap_alloc_new w1 (.cells #[PV ps, .func (.func j) #[] #[], .func (.func c) #[] #[]] 265)
 have B1' := B1.alloc B1.size (.cells #[PV ps, .func (.func j) #[] #[], .func (.func c) #[] #[]] 265)
 have z1 := B1.size
 clear hb1 B1
 go_wp2_with fail
 generalize w1.alloc (.cells #[PV ps, .func (.func j) #[] #[], .func (.func c) #[] #[]] 265) = W1 at *
 generalize w1.heap.size = b11 at *
 refine (HG.out.1 _ B1').mono ?_
 rintro e w2 ⟨rfl, hb2⟩
 have hal := hb2.alloc hb2.size (.cells #[.int .u64 k0, .int .u64 k1, .int .u64 k2, .int .u64 k3, .int .u64 k4, .int .u64 k5] 232)
 have q2 := heap_alloc_new w2 (.cells #[.int .u64 k0, .int .u64 k1, .int .u64 k2, .int .u64 k3, .int .u64 k4, .int .u64 k5] 232)
 have r2 := (hal.block b11 (gl q1)).trans q1
 have B2 := B1'.trans (hal.mono B1'.size)
 obtain ⟨d0, d1, d2, d3, d4, d5⟩ := cells6 q2
 have H2 := kq3 B2 r2 z1
 clear hb2 hal q2 r2 B2 B1' q1 z1
 go_wp2_with fail
 refine (HG.out.2.1 _ H2.out.1).mono ?_
 rintro e w3 ⟨rfl, hb3⟩
 have r3 := (hb3.block b11 (gl H2.out.2.1)).trans H2.out.2.1
 obtain ⟨e0, e1, e2⟩ := cells3 r3
 have l11 := (gl r3)
 have H3 := kq2 (H2.out.1.trans (hb3.mono H2.out.1.size)) r3
 clear hb3 r3 d0 d1 d2 d3 d4 d5
 go_wp2_with fail
 refine (HG.out.2.2.2.1 _ _ (HG.out.2.2.2.2.2.wide H3.out.1)).mono ?_
 rintro e w4 ⟨rfl, h4, k4'⟩
 have r4 := (k4'.block b11 (Or.inr ⟨H2.out.2.2, l11⟩)).trans H3.out.2
 obtain ⟨f0, f1, f2⟩ := cells3 r4
 have H4 := kq2 h4 k4'
 clear h4 k4' r4 e0 e1 e2
 go_wp2_with fail
 refine (HG.out.2.2.2.2.1 _ _ H4.out.1).mono ?_
 rintro e w5 ⟨rfl, h5, k5'⟩
 have H5 := kq2 (h5.mono (Z := Y) fun k hk => Or.inl hk) ((Keep.of_below H3.out.1 HG.out.2.2.2.2.2.yl).trans ((H4.out.2.trans k5').mono fun k hk => Or.inl hk))
 clear h5 k5' f0 f1 f2
 go_wp2_with fail
 go_ret3
 exact ⟨rfl, H5.out⟩
end Go.Proofs.YtcibkdbpicledaaGreatDoor
namespace Go.Proofs.YtcibkdbpicledaaGreatDoor
open Go.RowKit Go.BigFrame Go.Maps Go.WideMaps Lf
open Go.Shelf
attribute [local go_sem] Oper.semAt_some
theorem walk_check0 {w : World} {ps : Nat} {S : St} {Y : Nat → Prop} (h : StOn w ps S Y) (hi : Inv S) :
 Calls Tryz.prog 221 #[PV ps, .int .u64 0] w fun e w' => e = .returned (.int .i64 0) ∧ Below w.heap.size w w' := by
 have B0 := (Below.refl w.heap.size w).alloc (Nat.le_refl _) (.cells #[PV ps] 25)
 have B1 := B0.alloc B0.size (.cells #[.int .i64 0] 30)
 have hlen := st_len (h.below B1) hi 0 (by omega)
 rw [len_zero] at hlen
 have HG := kq2 hlen B1
 clear hlen h hi B0 B1
 go_enter Tryz.func221, Tryz.ntmps221
 go_wp2_with fail
 refine HG.out.1.mono ?_
 rintro e w1 ⟨rfl, rfl⟩
 go_wp2_with fail
 exact bodyPost_ret (v := .int .i64 0) (by simp [results, Tryz.f221, go_sem]) rfl ⟨rfl, HG.out.2⟩
theorem walk_in0 (ps root : Nat) (w : World) :
 Calls Tryz.prog 167 #[PV ps, .int .u64 root] w fun e w' => e = .returned (.func (.func 186) #[] #[PV w.heap.size, PV (w.heap.size + 1)]) ∧ w' = (w.alloc (.cells #[PV ps] 25)).alloc (.cells #[.int .u64 root] 83) := by
 go_enter Tryz.func167, Tryz.ntmps167
 go_wp2
 go_ret
 exact ⟨rfl, rfl⟩
def encE (x : Empty) : Array Value := nomatch x
theorem in_empty {w : World} {ps : Nat} {S : St} {Y : Nat → Prop} (h : StOn w ps S Y) (Bs Br : Nat) (hBs : Bs < w.heap.size ∧ w.cell? ⟨Bs, 0, none⟩ = some (PV ps)) (hBr : Br < w.heap.size ∧ w.cell? ⟨Br, 0, none⟩ = some (.int .u64 0)) :
 SeqStopsK Fence.wide 6 Tryz.prog 186 #[PV Bs, PV Br] encE (Below w.heap.size) (fun xs => xs = []) (fun _ => True) 0 w := fun l J Jx W hW hJ hJx hY h0 => by
 have hfL : Fence.wide.fn 187 := trivial
 have hlim : CallsIn Fence.wide 5 Tryz.prog 187 #[PV ps] W _ := callsIn_wide.2 (walk_limit (h.below hW))
 have hL : 1 ≤ limit S ∧ limit S ≤ 40000 := by have := words_le h; unfold limit; omega
 generalize limit S = L at *
 have cs := (hW.cell (p := ⟨Bs, 0, none⟩) hBs.1).trans hBs.2
 have cr := (hW.cell (p := ⟨Br, 0, none⟩) hBr.1).trans hBr.2
 have HL := Lib.hid hlim
 have HJ := kq5 hJ h0 hW hBs hBr
 have hW0 := Lib.hid hW
 clear hlim hW hJ hJx hY h0 hBs hBr h
 refine callsIn_of_wp Tryz.func186 rfl trivial ?_ rfl
 simp only [Tryz.ntmps186, List.size_toArray, List.length_cons, List.length_nil, Nat.reduceAdd, Nat.reduceSub, Array.replicate_succ, Array.replicate_zero, List.push_toArray, List.append_toArray, List.nil_append, List.cons_append]
 gi_wp2_with fail
 refine HL.out.mono ?_
 rintro e w1 ⟨rfl, hb1⟩
 have j1 := HJ.out.1 _ _ _ none HJ.out.2.1 (grown_of_below hb1) (fun r e => by cases e)
 have cs := (hb1.cell (p := ⟨Bs, 0, none⟩) (Nat.lt_of_lt_of_le HJ.out.2.2.2.1.1 hW0.out.size)).trans cs
 have cr := (hb1.cell (p := ⟨Br, 0, none⟩) (Nat.lt_of_lt_of_le HJ.out.2.2.2.2.1 hW0.out.size)).trans cr
 have H1 := Lib.hid j1
 clear HL hb1 j1
 have hL0 : (0 : Int) < L := by omega
 gi_wp2_with fail
 gi_loopw [4, 6, 7, 8, 9, 10, 11] (fun l0 k _ _ _ _ _ wr => l0 = .slice none 0 0 ∧ k = .int .i64 0 ∧ wr = w1) (fun _ _ _ _ _ _ _ _ => 0)
 case atStart => exact ⟨rfl, rfl, rfl⟩
 case round =>
  obtain ⟨rfl, rfl, rfl⟩ := hrel
  gi_wp2_with fail
  gi_loopw [4, 6, 7, 8] (fun l0 k _ _ wr' => l0 = .slice none 0 0 ∧ k = .int .i64 0 ∧ wr' = wr) (fun _ _ _ _ _ => 0)
  case atStart => exact ⟨rfl, rfl, rfl⟩
  case round =>
   obtain ⟨rfl, rfl, rfl⟩ := hrel
   gi_wp2_with fail
   refine bodyPost_ret (results_none rfl _ _ _) rfl ?_
   exact ⟨⟨_, rfl⟩, .inl ⟨[], rfl, H1.out⟩⟩
theorem walk_list0_in {w : World} {ps : Nat} {S : St} {Y : Nat → Prop} (h : StOn w ps S Y) :
 CallsIn Fence.wide 7 Tryz.prog 139 #[PV ps, .int .u64 0] w fun e w' => e = .returned (.slice none 0 0) ∧ Below w.heap.size w w' := by
 have h1 : 1 ≤ 7 := by omega
 have hfI : Fence.wide.fn 167 := trivial
 have hin : ∀ W, CallsIn Fence.wide 6 Tryz.prog 167 #[PV ps, .int .u64 0] W _ := fun W => callsIn_wide.2 (walk_in0 ps 0 W)
 have HR := Lib.hid h
 clear h
 refine callsIn_of_wp_marks Tryz.func139 rfl trivial ?_ rfl
 simp only [Tryz.ntmps139, List.size_toArray, List.length_cons, List.length_nil, Nat.reduceAdd, Nat.reduceSub, Array.replicate_succ, Array.replicate_zero, List.push_toArray, List.append_toArray, List.nil_append, List.cons_append]
 gi_wp2_with fail
 refine (hin _).mono ?_
 rintro e w4 ⟨rfl, rfl⟩
 gi_wp2_with fail
 have k0 := ((Bx.new w (.slice none 0 0) 229).alloc (.cells #[PV ps] 25)).alloc (.cells #[.int .u64 0] 83)
 have k1 := (Bx.new (w.alloc (.cells #[.slice none 0 0] 229)) (PV ps) 25).alloc (.cells #[.int .u64 0] 83)
 have k2 := Bx.new ((w.alloc (.cells #[.slice none 0 0] 229)).alloc (.cells #[PV ps] 25)) (.int .u64 0) 83
 have hb := (((Below.refl w.heap.size w).alloc (Nat.le_refl _) (.cells #[.slice none 0 0] 229)).alloc (by simp) (.cells #[PV ps] 25)).alloc (by simp; omega) (.cells #[.int .u64 0] 83)
 simp only [World.size_alloc] at k0 k1 k2
 generalize (((w.alloc (.cells #[.slice none 0 0] 229)).alloc (.cells #[PV ps] 25)).alloc (.cells #[.int .u64 0] 83)) = W0 at *
 refine wpIn_rangeFunc_ownH rfl h1 (gf := 186) (lb := #[PV (w.heap.size + 1), PV (w.heap.size + 1 + 1)]) rfl trivial (enters_of Tryz.func186 (by kernel_rfl) rfl)
  (in_empty (HR.out.below hb) _ _ ⟨Cx.lt (show Cx W0 _ 0 _ from k1), k1.1⟩ ⟨Cx.lt (show Cx W0 _ 0 _ from k2), k2.1⟩) (fun h k => h.trans k) (fun W l o o' h1 h2 h3 h4 => below_put W l o o' (by omega) h2 h3 h4) (Below.refl _ _) (fun x => nomatch x)
  (fun _ W => Bx W w.heap.size (.slice none 0 0) ∧ Below w.heap.size w W)
  (fun _ _ _ => False)
  (OwnFrom.and (Own.from (fun s A B row hs hg hr => hs.kept hg hr) _) (ownFrom_below (Nat.le_refl _) hb.size))
  (fun cd => Own.from (fun s A B row hs hg hr => hs) _)
  ⟨k0, hb⟩
  (fun x _ _ => nomatch x)
  (fun x => nomatch x)
  ?assign ?body ?done ?stop
 case assign => exact fun l pre x => nomatch x
 case body => exact fun l pre x => nomatch x
 case done =>
  rintro D ys W hD _ ⟨k0, hB⟩ hK
  obtain ⟨c1, f1⟩ := id k0
  have hwD : w.heap.size ≤ D := Nat.le_trans hb.size hD
  have HI := kq2 hB k0
  clear hB k0 k1 k2 hb
  gi_wp2
  refine ⟨by simp, .inl ⟨_, _, rfl, run_takeDeferred hK, ?_⟩⟩
  refine ⟨.slice none 0 0, by simp [results, Tryz.f139, go_sem], rfl, HI.out.1.trans (below_put W D _ _ hwD hK rfl rfl)⟩
 case stop =>
  rintro D cd pre W hD hpre hF
  exact hF.elim
theorem walk_list0 {w : World} {ps : Nat} {S : St} {Y : Nat → Prop} (h : StOn w ps S Y) :
 Calls Tryz.prog 139 #[PV ps, .int .u64 0] w fun e w' => e = .returned (.slice none 0 0) ∧ Below w.heap.size w w' := callsIn_wide.1 (walk_list0_in h)
end Go.Proofs.YtcibkdbpicledaaGreatDoor
namespace Go.Proofs.YtcibkdbpicledaaGreatDoor
open Go.RowKit Go.BigFrame Go.Maps Go.WideMaps Lf
theorem avl_check0 {w : World} {ps : Nat} {S : St} {Y : Nat → Prop} (h : StOn w ps S Y) (hi : Inv S) :
 Calls Tryz.prog 198 #[PV ps, .int .u64 0] w fun e w' => e = .returned (.int .i64 0) ∧ Below w.heap.size w w' := by
 have hc := walk_check0 h hi
 have hl := fun W (hW : Below w.heap.size w W) => walk_list0 (h.below hW)
 have HG := kq2 hc hl
 clear hc hl h hi
 go_enter Tryz.func198, Tryz.ntmps198
 go_wp2_with fail
 refine HG.out.1.mono ?_
 rintro e w1 ⟨rfl, hb1⟩
 have H1 := Lib.hid hb1
 clear hb1
 go_wp2_with fail
 refine (HG.out.2 _ H1.out).mono ?_
 rintro e w2 ⟨rfl, hb2⟩
 have H2 := Lib.hid (H1.out.trans (hb2.mono H1.out.size))
 clear hb2
 go_wp2_with fail
 go_loopw [7, 8, 9, 10, 21] (fun _ _ _ _ k wr => k = .int .i64 0 ∧ wr = w2) (fun _ _ _ _ _ _ => 0)
 case atStart => exact ⟨rfl, rfl⟩
 case round =>
  obtain ⟨rfl, rfl⟩ := hrel
  go_wp2_with fail
  go_ret
  exact ⟨rfl, H2.out⟩
structure ChecksAs (c : FuncId) : Prop where
 enter : ∀ (args : Array Value) (w : World), (callFunc c args).run Tryz.prog w = .ok (.enter c args) w
 call : ∀ {w : World} {ps : Nat} {S : St} {Y : Nat → Prop}, StOn w ps S Y → Inv S → Calls Tryz.prog c #[PV ps, .int .u64 0] w fun e w' => e = .returned (.int .i64 0) ∧ Below w.heap.size w w'
theorem checks_avl : ChecksAs 198 where
 enter args w := by go_simp
 call h hi := avl_check0 h hi
theorem parts_check0 {w : World} {ps : Nat} {S : St} {Y : Nat → Prop} (h : StOn w ps S Y) (hi : Inv S) {kind : Nat} {j c : FuncId} (hk : WayOk kind j c) (hc : ChecksAs c) :
 Calls Tryz.prog 137 #[PV ps, .int .i64 kind, .int .u64 0] w fun e w' => e = .returned (.int .i64 0) ∧ Below w.heap.size w w' := by
 have ha := asked_nil h hi hk
 have hen := hc.enter
 have hcc := fun W (hW : Below w.heap.size w W) => hc.call (h.below hW) hi
 simp only [cutV, fnV] at ha
 have HG := kq2 ha hcc
 clear ha hcc h hi hk hc
 go_enter Tryz.func137, Tryz.ntmps137
 go_wp2_with fail
 refine HG.out.1.mono ?_
 rintro e w1 ⟨rfl, hb1⟩
 have H1 := Lib.hid (hb1.alloc hb1.size (.cells #[PV ps, .func (.func j) #[] #[], .func (.func c) #[] #[]] 265))
 clear hb1
 go_wp2_with fail
 refine (HG.out.2 _ H1.out).mono ?_
 rintro e w2 ⟨rfl, hb2⟩
 have H2 := Lib.hid (H1.out.trans (hb2.mono H1.out.size))
 clear hb2
 go_wp2_with fail
 go_ret
 exact ⟨rfl, H2.out⟩
theorem bulk_asked {w : World} {ps : Nat} {S : St} {Y : Nat → Prop} (h : StOn w ps S Y) (hi : Inv S) {kind : Nat} (hk : kind = 1 ∨ kind = 2) (t : Int) :
 Calls Tryz.prog 135 #[PV ps, .int .i64 kind, .int .i64 t] w fun e w' => e = .returned (.int .i64 0) ∧ w = w' := by
 have hlen := st_len h hi 0 (by omega)
 rw [len_zero] at hlen
 have HG := Lib.hid hlen
 clear hlen h hi
 rcases hk with rfl | rfl
 all_goals
  go_enter Tryz.func135, Tryz.ntmps135
  go_wp2_with fail
  refine HG.out.mono ?_
  rintro e w1 ⟨rfl, rfl⟩
  go_wp2_with fail
  go_ret
  exact ⟨rfl, rfl⟩
structure KindOk (kind : Nat) (j c : FuncId) (jn : Jn) : Prop where
 is : kind = 1 ∨ kind = 2
 way : WayOk kind j c
 joins : JoinsAs j jn
 checks : ChecksAs c
theorem kind_avl : KindOk 1 197 198 avlOkM := ⟨Or.inl rfl, way_avl, joins_avl, checks_avl⟩
theorem bulk_check0 {w : World} {ps : Nat} {S : St} {Y : Nat → Prop} (h : StOn w ps S Y) (hi : Inv S) {kind : Nat} {j c : FuncId} {jn : Jn} (hk : KindOk kind j c jn) (t : Int) :
 Calls Tryz.prog 107 #[PV ps, .int .i64 kind, .int .i64 t, .int .u64 0] w fun e w' => e = .returned (.int .i64 0) ∧ Below w.heap.size w w' := by
 have ha := bulk_asked h hi hk.is t
 have hc := parts_check0 h hi hk.way hk.checks
 have hq : ((kind : Int) == 3) = false := by have := hk.is; simp; omega
 have HG := kq2 ha hc
 clear ha hc h hi hk
 go_enter Tryz.func107, Tryz.ntmps107
 go_wp2_with fail
 refine HG.out.1.mono ?_
 rintro e w1 ⟨rfl, rfl⟩
 go_wp2_with fail
 refine HG.out.2.mono ?_
 rintro e w2 ⟨rfl, hb2⟩
 have H2 := Lib.hid hb2
 clear hb2
 go_wp2_with fail
 go_ret
 exact ⟨rfl, H2.out⟩
theorem bulk_list0 {w : World} {ps : Nat} {S : St} {Y : Nat → Prop} (h : StOn w ps S Y) (hi : Inv S) {kind : Nat} {j c : FuncId} {jn : Jn} (hk : KindOk kind j c jn) (t : Int) :
 Calls Tryz.prog 108 #[PV ps, .int .i64 kind, .int .i64 t, .int .u64 0] w fun e w' => e = .returned (.tuple #[.slice none 0 0, .int .i64 0]) ∧ Below w.heap.size w w' := by
 have hc := bulk_check0 h hi hk t
 have hl := fun W (hW : Below w.heap.size w W) => walk_list0 (h.below hW)
 have hq : ((kind : Int) == 3) = false := by have := hk.is; simp; omega
 have HG := kq2 hc hl
 clear hc hl h hi hk
 go_enter Tryz.func108, Tryz.ntmps108
 go_wp2_with fail
 refine HG.out.1.mono ?_
 rintro e w1 ⟨rfl, hb1⟩
 have H1 := Lib.hid hb1
 clear hb1
 go_wp2_with fail
 refine (HG.out.2 _ H1.out).mono ?_
 rintro e w2 ⟨rfl, hb2⟩
 have H2 := Lib.hid (H1.out.trans (hb2.mono H1.out.size))
 clear hb2
 go_wp2_with fail
 go_loopw [11, 13, 14, 15, 41] (fun l0 _ _ _ k wr => l0 = .slice none 0 0 ∧ k = .int .i64 0 ∧ wr = w2) (fun _ _ _ _ _ _ => 0)
 case atStart => exact ⟨rfl, rfl, rfl⟩
 case round =>
  obtain ⟨rfl, rfl, rfl⟩ := hrel
  go_wp2_with fail
  go_loopw [16, 18, 19, 20, 21, 22, 62] (fun l1 _ _ _ _ _ k wr' => l1 = .slice none 0 0 ∧ k = .int .i64 0 ∧ wr' = wr) (fun _ _ _ _ _ _ _ _ => 0)
  case atStart => exact ⟨rfl, rfl, rfl⟩
  case round =>
   obtain ⟨rfl, rfl, rfl⟩ := hrel
   go_wp2_with fail
   go_ret2
   exact ⟨rfl, H2.out⟩
theorem walk_at_neg {w : World} {ps : Nat} {S : St} {Y : Nat → Prop} (h : StOn w ps S Y) (hi : Inv S) (root : Nat) (k : Int) (hk : k < 0) :
 Calls Tryz.prog 292 #[PV ps, .int .u64 root, .int .i64 k] w fun e w' => e = .returned (.tuple #[.int .u64 0, .int .i64 2]) ∧ w = w' := by
 have hle := st_len h hi 0 (by omega)
 rw [len_zero] at hle
 have HG := Lib.hid hle
 clear hle h hi
 go_enter Tryz.func292, Tryz.ntmps292
 go_wp2_with fail
 refine HG.out.mono ?_
 rintro e w1 ⟨rfl, rfl⟩
 go_wp2_with fail
 go_ret2
 exact ⟨rfl, rfl⟩
theorem walk_at {w : World} {ps : Nat} {S : St} {Y : Nat → Prop} (h : StOn w ps S Y) (hi : Inv S) (root : Nat) (hl : root < 18446744073709551616) (k : Nat) (hk : k < 4611686018427387904) {R : Nat × Nat} (hR : walkAtM S root k = some R) :
 Calls Tryz.prog 292 #[PV ps, .int .u64 root, .int .i64 k] w fun e w' => e = .returned (.tuple #[.int .u64 R.1, .int .i64 R.2]) ∧ Below w.heap.size w w' := by
 have hlen := st_len h hi 0 (by omega)
 rw [len_zero] at hlen
 unfold walkAtM at hR
 cases hz : sizeM S root with
 | none => rw [hz] at hR; cases hR
 | some z =>
 rw [hz] at hR
 simp only at hR
 have hzl : z < 4611686018427387904 := by have := num_some hz; omega
 have hsz := walk_size h hi root hl hz
 by_cases hzk : z ≤ k
 · rw [if_pos hzk] at hR
   have hR := Option.some.inj hR
   have hzk' : (z : Int) ≤ k := by omega
   have HG := kq3 hlen hsz hR
   clear hlen hsz hR h hi hz hzk
   go_enter Tryz.func292, Tryz.ntmps292
   go_wp2_with fail
   refine HG.out.1.mono ?_
   rintro e w1 ⟨rfl, rfl⟩
   go_wp2_with fail
   refine HG.out.2.1.mono ?_
   rintro e w1 ⟨rfl, hb⟩
   have HB := Lib.hid hb
   clear hb
   go_wp2_with fail
   go_ret2
   obtain rfl := HG.out.2.2
   exact ⟨rfl, HB.out⟩
 rw [if_neg hzk] at hR
 have hzk' : (k : Int) < z := by omega
 have hle := words_le h
 have hL : limit S ≤ 40000 := by unfold limit; omega
 obtain ⟨L, hLe⟩ : ∃ L, limit S = L := ⟨_, rfl⟩
 have hlm := fun W (hW : Below w.heap.size w W) => walk_limit (h.below hW)
 rw [hLe] at hlm hL hR
 have hnlt := fun hh => getNode_lt h hh
 have HG := kq7 hlen h hi hR hnlt hsz hlm
 clear hlen h hi hR hle hLe hnlt hlm hsz hz hzk
 go_enter Tryz.func292, Tryz.ntmps292
 go_wp2_with fail
 refine HG.out.1.mono ?_
 rintro e w1 ⟨rfl, rfl⟩
 go_wp2_with fail
 refine HG.out.2.2.2.2.2.1.mono ?_
 rintro e w0 ⟨rfl, hb0⟩
 have HB0 := Lib.hid hb0
 clear hb0
 go_wp2_with fail
 refine (HG.out.2.2.2.2.2.2 _ HB0.out).mono ?_
 rintro e w1 ⟨rfl, hb1⟩
 have HB1 := Lib.hid (HB0.out.trans (hb1.mono HB0.out.size))
 clear hb1
 go_wp2_with fail
 go_loopw [1, 2, 11, 12, 13, 14] (fun r b i _ _ _ wr => ∃ f root kk ii : Nat, r = .int .u64 root ∧ b = .int .i64 kk ∧ i = .int .i64 ii ∧ f + ii = L ∧ root < 18446744073709551616 ∧ kk < 4611686018427387904 ∧ Hid (atM S f root kk = some R ∧ Below w.heap.size w wr)) (fun _ _ i _ _ _ _ => L - (intOf i).toNat)
 case atStart => exact ⟨L, root, k, 0, rfl, rfl, rfl, by omega, hl, hk, HG.out.2.2.2.1, HB1.out⟩
 case round =>
  obtain ⟨f, root, kk, ii, rfl, rfl, rfl, hf, hrl, hkl, hin⟩ := hrel
  have hi9 : ii ≤ 40000 := by omega
  cases f with
  | zero =>
   have hii : ii = L := by omega
   have hRe : R = (0, 2) := by have h9 := hin.out.1; rw [atM_zero] at h9; exact (Option.some.inj h9).symm
   have HE := kq2 hRe hin.out.2
   have hge : (L : Int) ≤ ii := by omega
   clear hRe hin
   go_wp2_with fail
   go_ret2
   obtain rfl := HE.out.1
   exact ⟨rfl, HE.out.2⟩
  | succ f =>
   have hlt : (ii : Int) < L := by omega
   have hd := hin.out.1
   rw [atM_succ] at hd
   have hSr := HG.out.2.1.below hin.out.2
   have hg := node_get hSr HG.out.2.2.1 root hrl
   have hng := HG.out.2.2.2.2.1 root
   obtain ⟨⟨nd, er⟩, hE⟩ : ∃ r, getNode S root = r := ⟨_, rfl⟩
   rw [hE] at hg hng hd
   simp only at hg hng hd
   obtain ⟨k0, k1, k2, k3, k4, k5⟩ := nd
   obtain ⟨n0, n1, n2, n3, n4, n5⟩ := hng
   simp only at n0 n1 n2 n3 n4 n5
   have hnd : ndV ⟨k0, k1, k2, k3, k4, k5⟩ = .agg #[.int .u64 k0, .int .u64 k1, .int .u64 k2, .int .u64 k3, .int .u64 k4, .int .u64 k5] := rfl
   rw [hnd] at hg
   cases er with
   | succ er =>
    rw [if_pos (by omega)] at hd
    have hd := Option.some.inj hd
    have hq1 : (((er + 1 : Nat) : Int) != 0) = true := by simp; omega
    obtain ⟨g1, hg1⟩ : ∃ g1, er + 1 = g1 := ⟨_, rfl⟩
    rw [hg1] at hg hq1
    have HE := kq3 hg hd hin.out.2
    clear hg hd hin hSr hE hg1 hnd
    go_wp2_with fail
    refine HE.out.1.mono ?_
    rintro e w2 ⟨rfl, hb2⟩
    have HB2 := Lib.hid ((HE.out.2.2.trans (hb2.mono HE.out.2.2.size)).alloc (Nat.le_trans HE.out.2.2.size hb2.size) (.cells #[.int .u64 k0, .int .u64 k1, .int .u64 k2, .int .u64 k3, .int .u64 k4, .int .u64 k5] 232))
    clear hb2
    go_wp2_with fail
    go_ret2
    obtain rfl := HE.out.2.1
    exact ⟨rfl, HB2.out⟩
   | zero =>
    rw [if_neg (by omega)] at hd
    cases hz : sizeM S k2 with
    | none => rw [hz] at hd; cases hd
    | some z =>
     rw [hz] at hd
     simp only at hd
     have hzl : z < 4611686018427387904 := by have := num_some hz; omega
     have HE := kq3 hg hin.out.2 hz
     clear hg hin hSr hE hz
     go_wp2_with fail
     refine HE.out.1.mono ?_
     rintro e w2 ⟨rfl, hb2⟩
     have hB2 := (HE.out.2.1.trans (hb2.mono HE.out.2.1.size)).alloc (Nat.le_trans HE.out.2.1.size hb2.size) (.cells #[.int .u64 k0, .int .u64 k1, .int .u64 k2, .int .u64 k3, .int .u64 k4, .int .u64 k5] 232)
     have hsz := walk_size (HG.out.2.1.below hB2) HG.out.2.2.1 k2 n2 HE.out.2.2
     have hx := heap_alloc_new w2 (.cells #[.int .u64 k0, .int .u64 k1, .int .u64 k2, .int .u64 k3, .int .u64 k4, .int .u64 k5] 232)
     have hlt2 : w2.heap.size < (w2.alloc (.cells #[.int .u64 k0, .int .u64 k1, .int .u64 k2, .int .u64 k3, .int .u64 k4, .int .u64 k5] 232)).heap.size := by simp
     have HK := kq4 hsz hB2 hx hlt2
     clear hb2 hB2 hsz hx hlt2 hnd
     go_wp2_with fail
     refine HK.out.1.mono ?_
     rintro e w3 ⟨rfl, hb3⟩
     have hB3 := HK.out.2.1.trans (hb3.mono HK.out.2.1.size)
     have hx3 := (hb3.block _ HK.out.2.2.2).trans HK.out.2.2.1
     have a2 : w3.cell? ⟨w2.heap.size, 2, none⟩ = some (.int .u64 k2) := by rw [cell_of_block hx3]; rfl
     have a3 : w3.cell? ⟨w2.heap.size, 3, none⟩ = some (.int .u64 k3) := by rw [cell_of_block hx3]; rfl
     have HB3 := Lib.hid hB3
     clear hb3 hB3 hx3
     by_cases hc : kk < z
     · rw [if_pos hc] at hd
       have hc' : (kk : Int) < z := by omega
       have HD := Lib.hid hd
       clear hd
       go_wp2_with fail
       go_roundw
       case rel => exact ⟨f, k2, kk, ii + 1, rfl, rfl, by simp, by omega, n2, hkl, HD.out, HB3.out⟩
       case measure => simp [intOf]; omega
     · rw [if_neg hc] at hd
       by_cases hc2 : z < kk
       · rw [if_pos hc2] at hd
         have hc' : (z : Int) < kk := by omega
         have HD := Lib.hid hd
         clear hd
         go_wp2_with fail
         go_roundw
         case rel => exact ⟨f, k3, kk - (z + 1), ii + 1, rfl, by rw [show ((kk - (z + 1) : Nat) : Int) = (kk : Int) - ((z : Int) + 1) by omega], by simp, by omega, n3, by omega, HD.out, HB3.out⟩
         case measure => simp [intOf]; omega
       · rw [if_neg hc2] at hd
         obtain rfl : kk = z := by omega
         have hd := Option.some.inj hd
         have HD := Lib.hid hd
         clear hd
         go_wp2_with fail
         go_ret2
         obtain rfl := HD.out
         exact ⟨rfl, HB3.out⟩
end Go.Proofs.YtcibkdbpicledaaGreatDoor
namespace Go.Proofs.YtcibkdbpicledaaGreatDoor.Qv
open Go Go.RowKit
section
variable {P : Program} {l : List Oper} {md : Region.Mode} {S : World → Prop} {Q : Exit → Act → World → Prop}
def wpMix (P : Program) (l : List Oper) (Q : Exit → Act → World → Prop) (S : World → Prop) : List (Bool × Nat) → Act → World → Prop
 | [], a, w => Q .normal a w
 | (true, i) :: is, a, w => ∃ o, l[i]? = some o ∧ ∃ v, YieldsIf P l.toArray S o v a ∧ wpMix P l Q S is (a.put o.dst v) w
 | (false, i) :: is, a, w => ∃ o, l[i]? = some o ∧ Region.wanted o (yielded l.toArray a.tmps) = true ∧ o.wp P a w (fun a' w' => S w' ∧ wpMix P l Q S is a' w') Q
def mixB (md : Region.Mode) (ops : Array Oper) : List (Bool × Nat) → Array Bool → Bool
 | [], listed => (Region.ready md ops listed).isEmpty
 | (true, i) :: is, listed => (Region.ready md ops listed).contains i && Region.free md ops listed i && mixB md ops is (listed.setIfInBounds i true)
 | (false, i) :: is, listed => decide (Region.ready md ops listed = [i]) && mixB md ops is (listed.setIfInBounds i true)
theorem wpAnyH_mix (hsel : Region.noSelect l.toArray = true) (hQ : ∀ d v c a w, Q (.panic c) (Act.put a d v) w → Q (.panic c) a w) :
 ∀ (is : List (Bool × Nat)) (listed : Array Bool) (a : Act) (w : World), mixB md l.toArray is listed = true → S w → wpMix P l Q S is a w → wpAnyH P md l.toArray Q S is.length listed a w
 | [], _, _, _, hB, _, h => ⟨by simpa [mixB] using hB, h⟩
 | (true, i) :: is, listed, a, w, hB, hS, h => by
  simp only [mixB, Bool.and_eq_true] at hB
  obtain ⟨⟨hr, hf⟩, hB'⟩ := hB
  obtain ⟨o, h0, v, hy, hK⟩ := h
  have h0' : l.toArray[i]? = some o := by simpa using h0
  exact wpAnyH_take h0' hsel hf hr (fun c a w => hQ _ _ c a w) hy hS (wpAnyH_mix hsel hQ is _ _ _ hB' hS hK)
 | (false, j) :: is, listed, a, w, hB, hS, h => by
  simp only [mixB, Bool.and_eq_true, decide_eq_true_eq] at hB
  refine ⟨fun h1 => (by rw [hB.1] at h1; cases h1), fun i hi => ?_⟩
  rw [hB.1] at hi
  have hik : i = j := by simpa using hi
  subst hik
  have hrec := fun a' w' (hs : S w') (hq : wpMix P l Q S is a' w') => wpAnyH_mix hsel hQ is (listed.setIfInBounds i true) a' w' hB.2 hs hq
  obtain ⟨o, h0, hw, hh⟩ := h
  have h0' : l.toArray[i]? = some o := by simpa using h0
  unfold wpOp
  simp only [h0', hw, if_true]
  exact .inl (Oper.wp_mono (fun a' w' h' => ⟨h'.1, hrec a' w' h'.1 h'.2⟩) hh)
def lexMixB (md : Region.Mode) (ops : Array Oper) (is : List (Bool × Nat)) : Bool :=
 Region.noSelect ops && decide (is.length = ops.size) && mixB md ops is (Array.replicate ops.size false)
end
end Qv
open Qv
theorem wp_region_mix {P : Program} {id : Nat} {Q : Exit → Act → World → Prop} {a : Act} {w : World} {l : List Oper} (I : World → Prop) (is : List (Bool × Nat)) (hm : P.follows .mixedOrders = true) (hB : lexMixB .any l.toArray is = true)
 (hI : I w.drew) (h : wpMix P l (NoPanic Q) (InK I) is a w.drew) : (Code.region id l.toArray true).wp P Q a w := by
 simp only [lexMixB, Bool.and_eq_true, decide_eq_true_eq] at hB
 obtain ⟨⟨hsel, hn⟩, hlex⟩ := hB
 have hS : InK I w.drew := ⟨⟨_, hI⟩, rfl⟩
 refine wp_region_noPanic (wp_region_held_drew (S := InK I) hm hS (fun _ => ?_))
 have := wpAnyH_mix (md := .any) (Q := NoPanic Q) hsel (fun _ _ _ _ _ h => (h : False).elim) is _ a w.drew hlex hS h
 rw [hn] at this
 exact this
theorem mix_take {P : Program} {l : List Oper} {I : World → Prop} {Q : Exit → Act → World → Prop} {i : Nat} {is : List (Bool × Nat)} {a : Act} {w : World} (o : Oper) (ho : l[i]? = some o) (v : Value) (hw : Region.wanted o (yielded l.toArray a.tmps) = true) (hr : ∀ w, InK I w → (execOp a.eval o).run P w = .ok (.value v) w)
 (h : wpMix P l Q (InK I) is (a.put o.dst v) w) : wpMix P l Q (InK I) ((true, i) :: is) a w := ⟨o, ho, v, Or.inl ⟨hw, hr⟩, h⟩
theorem mix_do {P : Program} {l : List Oper} {Q : Exit → Act → World → Prop} {I : World → Prop} {i : Nat} {is : List (Bool × Nat)} {a : Act} {w : World} (o : Oper) (ho : l[i]? = some o) (hw : Region.wanted o (yielded l.toArray a.tmps) = true)
 (h : ∀ K' : Act → World → Prop, Shut (∀ a w, I w → wpMix P l Q (InK I) is a w → K' a w) → Oper.wp P o a w K' Q) : wpMix P l Q (InK I) ((false, i) :: is) a w :=
 ⟨o, ho, hw, h _ (fun _ _ hI hs => ⟨⟨⟨_, hI⟩, rfl⟩, hs⟩)⟩
theorem mix_nil {P : Program} {l : List Oper} {Q : Exit → Act → World → Prop} {S : World → Prop} {a : Act} {w : World} (h : Q .normal a w) : wpMix P l (NoPanic Q) S [] a w := h
end Go.Proofs.YtcibkdbpicledaaGreatDoor
namespace Go.Proofs.YtcibkdbpicledaaGreatDoor
open Go.RowKit Go.BigFrame Go.Maps Go.WideMaps Lf
theorem st2_other {W : World} {b c : Nat} (h : c ≠ b) (v0 v1 : Value) : ((W.setCell ⟨b, 0, none⟩ (v0)).setCell ⟨b, 1, none⟩ (v1)).heap[c]? = W.heap[c]? := by rw [heap_setCell_ne h, heap_setCell_ne h]
def binV (ps kind : Nat) : Value := .agg #[PV ps, .int .i64 kind]
def itV (k v : Nat) : Value := .agg #[.int .u64 k, .int .u64 v]
theorem bin_size {w : World} {ps : Nat} {S : St} {Y : Nat → Prop} (h : StOn w ps S Y) (hi : Inv S) (kind root : Nat) (hl : root < 18446744073709551616) {z : Nat} (hz : sizeM S root = some z) :
 Calls Tryz.prog 291 #[binV ps kind, .int .u64 root] w fun e w' => e = .returned (.int .i64 z) ∧ Below w.heap.size w w' := by
 have B0 := (Below.refl w.heap.size w).alloc (Nat.le_refl _) (.cells #[PV ps, .int .i64 kind] 185)
 have hs := walk_size (h.below B0) hi root hl hz
 have HG := kq2 hs B0
 clear hs B0 h hi hz
 simp only [binV]
 go_enter Tryz.func291, Tryz.ntmps291
 go_wp2_with fail
 refine HG.out.1.mono ?_
 rintro e w1 ⟨rfl, hb1⟩
 have H1 := Lib.hid (HG.out.2.trans (hb1.mono HG.out.2.size))
 clear hb1
 go_wp2_with fail
 go_ret
 exact ⟨rfl, H1.out⟩
theorem bin_rank {w : World} {ps : Nat} {S : St} {Y : Nat → Prop} (h : StOn w ps S Y) (hi : Inv S) (kind root : Nat) (hl : root < 18446744073709551616) (k : List UInt8) {z : Nat} (hz : rankM S root k = some z) :
 Calls Tryz.prog 289 #[binV ps kind, .int .u64 root, SV k] w fun e w' => e = .returned (.int .i64 z) ∧ Below w.heap.size w w' := by
 have B0 := (Below.refl w.heap.size w).alloc (Nat.le_refl _) (.cells #[PV ps, .int .i64 kind] 185)
 have hs := walk_rank (h.below B0) hi root hl k hz
 have HG := kq2 hs B0
 clear hs B0 h hi hz
 simp only [binV]
 go_enter Tryz.func289, Tryz.ntmps289
 go_wp2_with fail
 refine HG.out.1.mono ?_
 rintro e w1 ⟨rfl, hb1⟩
 have H1 := Lib.hid (HG.out.2.trans (hb1.mono HG.out.2.size))
 clear hb1
 go_wp2_with fail
 go_ret
 exact ⟨rfl, H1.out⟩
theorem bin_item {w : World} {ps : Nat} {S : St} {Y : Nat → Prop} (h : StOn w ps S Y) (hi : Inv S) (kind hh : Nat) (hl : hh < 18446744073709551616) :
 Calls Tryz.prog 293 #[binV ps kind, .int .u64 hh] w fun e w' => e = .returned (itV (getNode S hh).1.key (getNode S hh).1.val) ∧ Below w.heap.size w w' := by
 have B1 := (Below.refl w.heap.size w).alloc (Nat.le_refl _) (.cells #[PV ps, .int .i64 kind] 185)
 have B0 := B1.alloc B1.size (.cells #[.int .u64 0, .int .u64 0] 137)
 have z1 := heap_alloc_new (w.alloc (.cells #[PV ps, .int .i64 kind] 185)) (.cells #[.int .u64 0, .int .u64 0] 137)
 simp only [World.size_alloc] at z1
 have hg := node_get (h.below B0) hi hh hl
 obtain ⟨⟨⟨k0, k1, k2, k3, k4, k5⟩, er⟩, hE⟩ : ∃ q, getNode S hh = q := ⟨_, rfl⟩
 rw [hE] at hg ⊢
 simp only [ndV] at hg
 have HG := kq3 hg B0 z1
 clear hg B0 B1 h hi hE z1
 simp only [binV, itV]
 go_enter Tryz.func293, Tryz.ntmps293
 go_wp2_with fail
 refine HG.out.1.mono ?_
 rintro e w1 ⟨rfl, hb1⟩
 have hal := hb1.alloc hb1.size (.cells #[.int .u64 k0, .int .u64 k1, .int .u64 k2, .int .u64 k3, .int .u64 k4, .int .u64 k5] 232)
 have q1 := heap_alloc_new w1 (.cells #[.int .u64 k0, .int .u64 k1, .int .u64 k2, .int .u64 k3, .int .u64 k4, .int .u64 k5] 232)
 have z1 := (hal.block (w.heap.size + 1) (by simp)).trans HG.out.2.2
 have B1 := HG.out.2.1.trans (hal.mono HG.out.2.1.size)
 clear hb1 hal
 obtain ⟨c0, c1⟩ := cells2 z1
 obtain ⟨f0, f1⟩ := frees2 z1
 have HW := kq2 B1 z1
 clear B1 z1 q1
 go_wp2_with fail
 have q3 := st2_heap HW.out.2 (.int .u64 k0) (.int .u64 k1)
 have B3 := st2_below HW.out.1 (Nat.le_succ w.heap.size) (.int .u64 k0) (.int .u64 k1)
 generalize (((w1.alloc (.cells #[.int .u64 k0, .int .u64 k1, .int .u64 k2, .int .u64 k3, .int .u64 k4, .int .u64 k5] 232)).setCell ⟨(w.heap.size + 1), 0, none⟩ (.int .u64 k0)).setCell ⟨(w.heap.size + 1), 1, none⟩ (.int .u64 k1)) = W3 at *
 obtain ⟨e0, e1⟩ := cells2 q3
 exact bodyPost_ret (v := .agg #[.int .u64 k0, .int .u64 k1]) (by simp [results, Tryz.f293, go_sem, e0, e1]) rfl ⟨rfl, B3⟩
theorem bin_at {w : World} {ps : Nat} {S : St} {Y : Nat → Prop} (h : StOn w ps S Y) (hi : Inv S) (kind root : Nat) (hl : root < 18446744073709551616) (k : Nat) (hk : k < 4611686018427387904) {R : Nat × Nat} (hR : walkAtM S root k = some R) (hR1 : R.1 < 18446744073709551616) :
 Calls Tryz.prog 286 #[binV ps kind, .int .u64 root, .int .i64 k] w fun e w' => e = .returned (.tuple #[itV (getNode S R.1).1.key (getNode S R.1).1.val, .int .i64 R.2]) ∧ Below w.heap.size w w' := by
 have B1 := (Below.refl w.heap.size w).alloc (Nat.le_refl _) (.cells #[PV ps, .int .i64 kind] 185)
 have q1 := heap_alloc_new w (.cells #[PV ps, .int .i64 kind] 185)
 have B0 := B1.alloc B1.size (.cells #[.int .u64 0, .int .u64 0] 137)
 have z1 := heap_alloc_new (w.alloc (.cells #[PV ps, .int .i64 kind] 185)) (.cells #[.int .u64 0, .int .u64 0] 137)
 have q1 := (((Below.refl (w.alloc (.cells #[PV ps, .int .i64 kind] 185)).heap.size (w.alloc (.cells #[PV ps, .int .i64 kind] 185))).alloc (Nat.le_refl _) (.cells #[.int .u64 0, .int .u64 0] 137)).block w.heap.size (by simp)).trans q1
 simp only [World.size_alloc] at z1
 have ha := walk_at (h.below B0) hi root hl k hk hR
 have hit := fun W (hW : Below w.heap.size w W) => bin_item (h.below hW) hi kind R.1 hR1
 simp only [itV, binV] at hit ⊢
 generalize (getNode S R.1).1.key = k0 at *
 generalize (getNode S R.1).1.val = k1 at *
 obtain ⟨r, er⟩ := R
 simp only at ha hit ⊢
 have HG := kq5 ha hit B0 z1 q1
 clear ha hit B0 B1 h hi hR z1 q1 hR1
 go_enter Tryz.func286, Tryz.ntmps286
 go_wp2_with fail
 refine HG.out.1.mono ?_
 rintro e w1 ⟨rfl, hb1⟩
 have z1 := (hb1.block (w.heap.size + 1) (by simp)).trans HG.out.2.2.2.1
 have q1 := (hb1.block w.heap.size (by simp; omega)).trans HG.out.2.2.2.2
 obtain ⟨c0, c1⟩ := cells2 q1
 have H1 := kq2 (HG.out.2.2.1.trans (hb1.mono HG.out.2.2.1.size)) z1
 clear hb1 z1 q1
 go_wp2_with fail
 refine (HG.out.2.1 _ H1.out.1).mono ?_
 rintro e w2 ⟨rfl, hb2⟩
 have z2 := (hb2.block (w.heap.size + 1) (gl H1.out.2)).trans H1.out.2
 obtain ⟨d0, d1⟩ := cells2 z2
 obtain ⟨f0, f1⟩ := frees2 z2
 have HW := kq2 (H1.out.1.trans (hb2.mono H1.out.1.size)) z2
 clear hb2 z2 c0 c1
 go_wp2_with fail
 have q3 := st2_heap HW.out.2 (.int .u64 k0) (.int .u64 k1)
 have B3 := st2_below HW.out.1 (Nat.le_succ w.heap.size) (.int .u64 k0) (.int .u64 k1)
 generalize ((w2.setCell ⟨(w.heap.size + 1), 0, none⟩ (.int .u64 k0)).setCell ⟨(w.heap.size + 1), 1, none⟩ (.int .u64 k1)) = W3 at *
 obtain ⟨e0, e1⟩ := cells2 q3
 exact bodyPost_ret (v := .tuple #[.agg #[.int .u64 k0, .int .u64 k1], .int .i64 er]) (by simp [results, Tryz.f286, go_sem, e0, e1]) rfl ⟨rfl, B3⟩
theorem asked_zero (S : St) : askedN S 0 = 7 := by
 unfold askedN
 rw [len_zero]
 rfl
theorem getNode_zero (S : St) : getNode S 0 = (Nd.zero, 7) := by
 unfold getNode
 rw [asked_zero]
 rfl
theorem bin_without0 {w : World} {ps : Nat} {S : St} {Y : Nat → Prop} (h : StOn w ps S Y) (hi : Inv S) (kind : Nat) :
 Calls Tryz.prog 297 #[binV ps kind, .int .u64 0] w fun e w' => e = .returned (.tuple #[itV 0 0, .bool false]) ∧ Below w.heap.size w w' := by
 have B1 := (Below.refl w.heap.size w).alloc (Nat.le_refl _) (.cells #[PV ps, .int .i64 kind] 185)
 have q1 := heap_alloc_new w (.cells #[PV ps, .int .i64 kind] 185)
 have B0 := B1.alloc B1.size (.cells #[.int .u64 0, .int .u64 0] 137)
 have z1 := heap_alloc_new (w.alloc (.cells #[PV ps, .int .i64 kind] 185)) (.cells #[.int .u64 0, .int .u64 0] 137)
 have q1 := (((Below.refl (w.alloc (.cells #[PV ps, .int .i64 kind] 185)).heap.size (w.alloc (.cells #[PV ps, .int .i64 kind] 185))).alloc (Nat.le_refl _) (.cells #[.int .u64 0, .int .u64 0] 137)).block w.heap.size (by simp)).trans q1
 simp only [World.size_alloc] at z1
 have hit := bin_item (h.below B0) hi kind 0 (by decide)
 have hdr := fun W (hW : Below w.heap.size w W) => node_drop_no (h.below hW) hi 0 (by decide) (by rw [asked_zero]; decide)
 rw [getNode_zero] at hit
 rw [asked_zero] at hdr
 simp only [itV, binV, Nd.zero] at hit ⊢
 have HG := kq5 hit hdr B0 z1 q1
 clear hit hdr B0 B1 h hi z1 q1
 go_enter Tryz.func297, Tryz.ntmps297
 go_wp2_with fail
 refine HG.out.1.mono ?_
 rintro e w1 ⟨rfl, hb1⟩
 have hal := hb1.alloc hb1.size (.cells #[.int .u64 0, .int .u64 0] 137)
 have y1 := heap_alloc_new w1 (.cells #[.int .u64 0, .int .u64 0] 137)
 have z1 := (hal.block (w.heap.size + 1) (by simp)).trans HG.out.2.2.2.1
 have q1 := (hal.block w.heap.size (by simp; omega)).trans HG.out.2.2.2.2
 have B2 := HG.out.2.2.1.trans (hal.mono HG.out.2.2.1.size)
 go_wp2_with fail
 generalize w1.alloc (.cells #[.int .u64 0, .int .u64 0] 137) = W at *
 obtain ⟨I, hIi, hIo⟩ : ∃ I : World → Prop, (∀ w', I w' → w'.heap[w.heap.size]? = some (.cells #[PV ps, .int .i64 kind] 185) ∧ w'.heap[w1.heap.size]? = some (.cells #[.int .u64 0, .int .u64 0] 137)) ∧ (∀ w', w'.heap[w.heap.size]? = some (.cells #[PV ps, .int .i64 kind] 185) → w'.heap[w1.heap.size]? = some (.cells #[.int .u64 0, .int .u64 0] 137) → I w') := ⟨fun w' => w'.heap[w.heap.size]? = some (.cells #[PV ps, .int .i64 kind] 185) ∧ w'.heap[w1.heap.size]? = some (.cells #[.int .u64 0, .int .u64 0] 137), fun _ h => h, fun _ a b => ⟨a, b⟩⟩
 have hy0 := fun x : Keeps I => (hIi _ x.ok).1
 have hz0 := fun x : Keeps I => (hIi _ x.ok).2
 obtain ⟨my0, my1⟩ := cellsX2 hy0
 obtain ⟨mz0, mz1⟩ := cellsX2 hz0
 obtain ⟨e0, e1⟩ := cells2 z1
 obtain ⟨f0, f1⟩ := frees2 z1
 have hne : w1.heap.size ≠ w.heap.size + 1 := by have := hb1.size; simp at this; omega
 have HW := kq4 B2 z1 q1 y1
 have HI := Lib.hid hIo
 have hI0 : I W.drew := hIo _ q1 y1
 clear B2 z1 q1 y1 hb1 hal hy0 hz0 hIi hIo
 refine wp_region_mix I [(true, 0), (true, 1), (true, 2), (true, 3), (false, 4), (true, 5), (false, 6), (false, 7)] (by kernel_rfl) (by kernel_rfl) hI0 ?_
 iterate 4
  refine' mix_take _ (by rfl) _ (by rfl) ?_ ?_
  rotate_left
  · rintro _ ⟨x, rfl⟩
    have hxmy0 := my0 x
    have hxmz0 := mz0 x
    have hxmz1 := mz1 x
    go_simp
    try with_reducible rfl
  try simp only [pu]
 refine mix_do _ (by rfl) (by rfl) (fun K hK => ?_)
 go_simp
 refine (HG.out.2.1 _ HW.out.1.drew).mono ?_
 rintro e w3 ⟨rfl, rfl⟩
 try go_simp
 refine hK.out _ _ (HI.out _ HW.out.2.2.1 HW.out.2.2.2) ?_
 clear hK K
 try simp only [pu]
 refine' mix_take _ (by rfl) _ (by rfl) ?_ ?_
 rotate_left
 · rintro _ ⟨x, rfl⟩
   go_simp
   try with_reducible rfl
 try simp only [pu]
 refine mix_do _ (by rfl) (by rfl) (fun K hK => ?_)
 go_simp
 have q3 : ((W.setCell ⟨(w.heap.size + 1), 0, none⟩ (.int .u64 0)).setCell ⟨(w.heap.size + 1), 1, none⟩ (.int .u64 0)).drew.heap[w.heap.size + 1]? = _ := st2_heap HW.out.2.1 (.int .u64 0) (.int .u64 0)
 have B3 := (st2_below HW.out.1 (Nat.le_succ w.heap.size) (.int .u64 0) (.int .u64 0)).drew
 have r3 : ((W.setCell ⟨(w.heap.size + 1), 0, none⟩ (.int .u64 0)).setCell ⟨(w.heap.size + 1), 1, none⟩ (.int .u64 0)).drew.heap[w.heap.size]? = _ := (st2_other (by omega) (.int .u64 0) (.int .u64 0)).trans HW.out.2.2.1
 have y3 : ((W.setCell ⟨(w.heap.size + 1), 0, none⟩ (.int .u64 0)).setCell ⟨(w.heap.size + 1), 1, none⟩ (.int .u64 0)).drew.heap[w1.heap.size]? = _ := (st2_other hne (.int .u64 0) (.int .u64 0)).trans HW.out.2.2.2
 generalize ((W.setCell ⟨(w.heap.size + 1), 0, none⟩ (.int .u64 0)).setCell ⟨(w.heap.size + 1), 1, none⟩ (.int .u64 0)).drew = W3 at *
 try go_simp
 refine hK.out _ _ (HI.out _ r3 y3) ?_
 clear hK K
 try simp only [pu]
 refine mix_do _ (by rfl) (by rfl) (fun K hK => ?_)
 go_simp
 try go_simp
 refine hK.out _ _ (HI.out _ r3 y3) ?_
 clear hK K
 try simp only [pu]
 refine mix_nil ?_
 obtain ⟨g0, g1⟩ := cells2 q3
 clear e0 e1 f0 f1 q3 r3 y3
 have HB := Lib.hid B3
 clear B3
 go_wp2_with fail
 exact bodyPost_ret (v := .tuple #[.agg #[.int .u64 0, .int .u64 0], .bool false]) (by simp [results, Tryz.f297, go_sem, g0, g1]) rfl ⟨rfl, HB.out⟩
