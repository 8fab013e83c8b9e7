/- Trees taken apart and put together: split, Insert: the walks. Trees taken apart and put together: Insert: the walk. -/
import Derived.Test.YtoaabbnieakidaaGreatDoorRGat
import Derived.OwnWalk
namespace Go.Proofs.YtoaabbnieakidaaGreatDoorR
open Go.RowKit Go.BigFrame Go.Maps Go.WideMaps Lf

set_option maxRecDepth 100000 in
set_option maxHeartbeats 6400000 in
theorem cut_split {ps : Nat} {j c : FuncId} {jn : Jn} (hjn : JoinsAs j jn) (key : List UInt8) : ∀ (f d : Nat), d + f = 200 → ∀ {w : World} {S S' : St} {Y : Nat → Prop} {root l m r : Nat}, StOn w ps S Y → Inv S → root < 18446744073709551616 →
    splitM jn key f S root = some ((l, m, r), S') →
    (Calls Tryz.prog 371 #[cutV ps j c, .int .u64 root, SV key, .int .i64 d] w fun e w' => e = .returned (.tuple #[.int .u64 l, .int .u64 m, .int .u64 r]) ∧ StOn w' ps S' Y ∧ Keep Y w w') ∧ Inv S' ∧ l < 18446744073709551616 ∧ m < 18446744073709551616 ∧ r < 18446744073709551616 := by
  intro f
  induction f with
  | zero =>
    intro d hd w S S' Y root l m r h hi hl hs
    obtain rfl : d = 200 := by omega
    rw [splitM_zero] at hs
    have hs := Option.some.inj hs
    injection hs with e1 e2
    injection e1 with e1 e3
    injection e3 with e3 e4
    subst e1 e2 e3 e4
    refine ⟨?_, hi, by decide, by decide, by decide⟩
    have HG := Lib.hid (And.intro (h.below ((Below.refl w.heap.size w).alloc (Nat.le_refl _) (.cells #[PV ps, .func (.func j) #[] #[], .func (.func c) #[] #[]] 343))) (h.keep ((Below.refl w.heap.size w).alloc (Nat.le_refl _) (.cells #[PV ps, .func (.func j) #[] #[], .func (.func c) #[] #[]] 343))))
    simp only [cutV, fnV]
    clear h hi hd hjn
    go_enter Tryz.func371, Tryz.ntmps371
    go_wp2_with fail
    all_goals (go_ret3; exact ⟨rfl, HG.out⟩)
  | succ f ih =>
    intro d hd w S S' Y root l m r h hi hl hs
    rw [splitM_succ] at hs
    split at hs
    · rename_i h0
      subst h0
      have hs := Option.some.inj hs
      injection hs with e1 e2
      injection e1 with e1 e3
      injection e3 with e3 e4
      subst e1 e2 e3 e4
      refine ⟨?_, hi, by decide, by decide, by decide⟩
      have HG := Lib.hid (And.intro (h.below ((Below.refl w.heap.size w).alloc (Nat.le_refl _) (.cells #[PV ps, .func (.func j) #[] #[], .func (.func c) #[] #[]] 343))) (h.keep ((Below.refl w.heap.size w).alloc (Nat.le_refl _) (.cells #[PV ps, .func (.func j) #[] #[], .func (.func c) #[] #[]] 343))))
      simp only [cutV, fnV]
      clear h hi hd hjn ih
      go_enter Tryz.func371, Tryz.ntmps371
      go_wp2_with fail
      all_goals (go_ret3; exact ⟨rfl, HG.out⟩)
    · rename_i h0
      split at hs
      · cases hs
      rename_i k hk
      have hq : ((root : Int) == 0) = false := by simp; omega
      have hdq : ((d : Int) == 200) = false := by simp; omega
      have hdw : IntKind.i64.wrap ((d : Int) + 1) = (d : Int) + 1 := IntWalk.i64_in _ (by omega)
      have hlt := getNode_lt h root
      have q0 := heap_alloc_new w (.cells #[PV ps, fnV j, fnV c] 343)
      have B0 := (Below.refl w.heap.size w).alloc (Nat.le_refl _) (.cells #[PV ps, fnV j, fnV c] 343)
      have hkey := fun W (hW : Below w.heap.size w W) => cut_key (j := j) (c := c) (h.below hW) hi root hl hk
      have hcmp := fun W => text_compare key k W
      split at hs
      · rename_i hc
        have hq5 : (cmpB key k < 0) = True := eq_true hc
        split at hs
        · cases hs
        rename_i l1 m1 r1 S1 h1
        obtain ⟨⟨x, S2⟩, hj1, he⟩ := Option.map_eq_some_iff.1 hs
        injection he with e1 e2
        injection e1 with e1 e3
        injection e3 with e3 e4
        simp only at e1 e3 e4 hj1
        subst e1 e2 e3 e4
        have hrec := fun W Z (hW : StOn W ps S Z) => (ih (d + 1) (by omega) hW hi hlt.left h1).1
        obtain ⟨-, hi1, hl1, hm1, hr1⟩ := ih (d + 1) (by omega) h hi hlt.left h1
        have hjs := cjoinM_some hjn hj1
        have hjoin := fun W Z (hW : StOn W ps S1 Z) => cut_join (c := c) hW hi1 hjn r1 root (getNode S root).1.right hr1 hl hlt.right hj1
        refine ⟨?_, hjn.inv hi1 hjs, hl1, hm1, by rcases hjn.mem hi1 hjs with e | e | e <;> simp only at e <;> first | (rw [e]; exact hl) | (rw [e]; exact hr1) | (rw [e]; exact hlt.right)⟩
        obtain ⟨⟨⟨k0, k1, k2, k3, k4, k5⟩, er⟩, hE⟩ : ∃ q, getNode S root = q := ⟨_, rfl⟩
        rw [hE] at hkey hlt hrec hjoin
        simp only at hlt hrec hjoin
        simp only [cutV, fnV, ndV] at q0 B0 hkey hrec hjoin ⊢
        have HG := Lib.hid (And.intro hkey (And.intro hcmp (And.intro q0 (And.intro B0 (And.intro hrec (And.intro hjoin h))))))
        clear hkey hcmp q0 B0 hrec hjoin h hi hE hk h1 hs hj1 hi1 hjn ih hd h0 hlt hl1 hm1 hr1 hjs hl
        go_enter Tryz.func371, Tryz.ntmps371
        go_wp2_with fail
        refine (HG.out.1 _ HG.out.2.2.2.1).mono ?_
        rintro e w1 ⟨rfl, hb1⟩
        have hal := hb1.alloc hb1.size (.cells #[.int .u64 k0, .int .u64 k1, .int .u64 k2, .int .u64 k3, .int .u64 k4, .int .u64 k5] 274)
        have q2 := heap_alloc_new w1 (.cells #[.int .u64 k0, .int .u64 k1, .int .u64 k2, .int .u64 k3, .int .u64 k4, .int .u64 k5] 274)
        have r2 := (hal.block w.heap.size (by simp)).trans HG.out.2.2.1
        have hlt1 : w.heap.size ≤ w1.heap.size := by have := hb1.size; simp at this; omega
        have B2 := HG.out.2.2.2.1.trans (hal.mono HG.out.2.2.2.1.size)
        go_wp2_with fail
        generalize w1.alloc (.cells #[.int .u64 k0, .int .u64 k1, .int .u64 k2, .int .u64 k3, .int .u64 k4, .int .u64 k5] 274) = W at *
        generalize w1.heap.size = b12 at *
        refine (HG.out.2.1 _).mono ?_
        rintro e w2 ⟨rfl, rfl⟩
        have c0 : (w2).cell? ⟨w.heap.size, 0, none⟩ = some (PV ps) := by rw [cell_of_block r2]; rfl
        have c1 : (w2).cell? ⟨w.heap.size, 1, none⟩ = some (.func (.func j) #[] #[]) := by rw [cell_of_block r2]; rfl
        have c2 : (w2).cell? ⟨w.heap.size, 2, none⟩ = some (.func (.func c) #[] #[]) := by rw [cell_of_block r2]; rfl
        have d0 : (w2).cell? ⟨b12, 0, none⟩ = some (.int .u64 k0) := by rw [cell_of_block q2]; rfl
        have d1 : (w2).cell? ⟨b12, 1, none⟩ = some (.int .u64 k1) := by rw [cell_of_block q2]; rfl
        have d2 : (w2).cell? ⟨b12, 2, none⟩ = some (.int .u64 k2) := by rw [cell_of_block q2]; rfl
        have d3 : (w2).cell? ⟨b12, 3, none⟩ = some (.int .u64 k3) := by rw [cell_of_block q2]; rfl
        have d4 : (w2).cell? ⟨b12, 4, none⟩ = some (.int .u64 k4) := by rw [cell_of_block q2]; rfl
        have d5 : (w2).cell? ⟨b12, 5, none⟩ = some (.int .u64 k5) := by rw [cell_of_block q2]; rfl
        have l8 := (Array.getElem?_eq_some_iff.1 r2).1
        have l12 := (Array.getElem?_eq_some_iff.1 q2).1
        have H2 := Lib.hid (And.intro B2 (And.intro r2 q2))
        have hle12 := Lib.hid hlt1
        clear hb1 hal q2 r2 B2 hlt1
        go_wp2_with fail
        refine (HG.out.2.2.2.2.1 _ _ (HG.out.2.2.2.2.2.2.wide H2.out.1)).mono ?_
        rintro e w3 ⟨rfl, h3, k3'⟩
        have r3 := (k3'.block w.heap.size (Or.inr ⟨Nat.le_refl _, l8⟩)).trans H2.out.2.1
        have q3 := (k3'.block b12 (Or.inr ⟨hle12.out, l12⟩)).trans H2.out.2.2
        have e0 : (w3).cell? ⟨w.heap.size, 0, none⟩ = some (PV ps) := by rw [cell_of_block r3]; rfl
        have e1 : (w3).cell? ⟨w.heap.size, 1, none⟩ = some (.func (.func j) #[] #[]) := by rw [cell_of_block r3]; rfl
        have e2 : (w3).cell? ⟨w.heap.size, 2, none⟩ = some (.func (.func c) #[] #[]) := by rw [cell_of_block r3]; rfl
        have g0 : (w3).cell? ⟨b12, 0, none⟩ = some (.int .u64 k0) := by rw [cell_of_block q3]; rfl
        have g1 : (w3).cell? ⟨b12, 1, none⟩ = some (.int .u64 k1) := by rw [cell_of_block q3]; rfl
        have g2 : (w3).cell? ⟨b12, 2, none⟩ = some (.int .u64 k2) := by rw [cell_of_block q3]; rfl
        have g3 : (w3).cell? ⟨b12, 3, none⟩ = some (.int .u64 k3) := by rw [cell_of_block q3]; rfl
        have g4 : (w3).cell? ⟨b12, 4, none⟩ = some (.int .u64 k4) := by rw [cell_of_block q3]; rfl
        have g5 : (w3).cell? ⟨b12, 5, none⟩ = some (.int .u64 k5) := by rw [cell_of_block q3]; rfl
        have H3 := Lib.hid (And.intro h3 k3')
        clear h3 k3' r3 q3 c0 c1 c2 d0 d1 d2 d3 d4 d5
        go_wp2_with fail
        refine (HG.out.2.2.2.2.2.1 _ _ H3.out.1).mono ?_
        rintro e w4 ⟨rfl, h4, k4'⟩
        have H4 := Lib.hid (And.intro (h4.mono (Z := Y) fun k hk => Or.inl hk) ((Keep.of_below H2.out.1 HG.out.2.2.2.2.2.2.yl).trans ((H3.out.2.trans k4').mono fun k hk => Or.inl hk)))
        clear h4 k4' e0 e1 e2 g0 g1 g2 g3 g4 g5
        go_wp2_with fail
        go_ret3
        exact ⟨rfl, H4.out⟩
      · rename_i hc
        split at hs
        · rename_i hc2
          have hq5 : (cmpB key k < 0) = False := eq_false hc
          have hq8 : (0 < cmpB key k) = True := eq_true hc2
          split at hs
          · cases hs
          rename_i l1 m1 r1 S1 h1
          obtain ⟨⟨x, S2⟩, hj1, he⟩ := Option.map_eq_some_iff.1 hs
          injection he with e1 e2
          injection e1 with e1 e3
          injection e3 with e3 e4
          simp only at e1 e3 e4 hj1
          subst e1 e2 e3 e4
          have hrec := fun W Z (hW : StOn W ps S Z) => (ih (d + 1) (by omega) hW hi hlt.right h1).1
          obtain ⟨-, hi1, hl1, hm1, hr1⟩ := ih (d + 1) (by omega) h hi hlt.right h1
          have hjs := cjoinM_some hjn hj1
          have hjoin := fun W Z (hW : StOn W ps S1 Z) => cut_join (c := c) hW hi1 hjn (getNode S root).1.left root l1 hlt.left hl hl1 hj1
          refine ⟨?_, hjn.inv hi1 hjs, by rcases hjn.mem hi1 hjs with e | e | e <;> simp only at e <;> first | (rw [e]; exact hl) | (rw [e]; exact hl1) | (rw [e]; exact hlt.left), hm1, hr1⟩
          obtain ⟨⟨⟨k0, k1, k2, k3, k4, k5⟩, er⟩, hE⟩ : ∃ q, getNode S root = q := ⟨_, rfl⟩
          rw [hE] at hkey hlt hrec hjoin
          simp only at hlt hrec hjoin
          simp only [cutV, fnV, ndV] at q0 B0 hkey hrec hjoin ⊢
          have HG := Lib.hid (And.intro hkey (And.intro hcmp (And.intro q0 (And.intro B0 (And.intro hrec (And.intro hjoin h))))))
          clear hkey hcmp q0 B0 hrec hjoin h hi hE hk h1 hs hj1 hi1 hjn ih hd h0 hlt hl1 hm1 hr1 hjs hl
          go_enter Tryz.func371, Tryz.ntmps371
          go_wp2_with fail
          refine (HG.out.1 _ HG.out.2.2.2.1).mono ?_
          rintro e w1 ⟨rfl, hb1⟩
          have hal := hb1.alloc hb1.size (.cells #[.int .u64 k0, .int .u64 k1, .int .u64 k2, .int .u64 k3, .int .u64 k4, .int .u64 k5] 274)
          have q2 := heap_alloc_new w1 (.cells #[.int .u64 k0, .int .u64 k1, .int .u64 k2, .int .u64 k3, .int .u64 k4, .int .u64 k5] 274)
          have r2 := (hal.block w.heap.size (by simp)).trans HG.out.2.2.1
          have hlt1 : w.heap.size ≤ w1.heap.size := by have := hb1.size; simp at this; omega
          have B2 := HG.out.2.2.2.1.trans (hal.mono HG.out.2.2.2.1.size)
          go_wp2_with fail
          generalize w1.alloc (.cells #[.int .u64 k0, .int .u64 k1, .int .u64 k2, .int .u64 k3, .int .u64 k4, .int .u64 k5] 274) = W at *
          generalize w1.heap.size = b12 at *
          refine (HG.out.2.1 _).mono ?_
          rintro e w2 ⟨rfl, rfl⟩
          have c0 : (w2).cell? ⟨w.heap.size, 0, none⟩ = some (PV ps) := by rw [cell_of_block r2]; rfl
          have c1 : (w2).cell? ⟨w.heap.size, 1, none⟩ = some (.func (.func j) #[] #[]) := by rw [cell_of_block r2]; rfl
          have c2 : (w2).cell? ⟨w.heap.size, 2, none⟩ = some (.func (.func c) #[] #[]) := by rw [cell_of_block r2]; rfl
          have d0 : (w2).cell? ⟨b12, 0, none⟩ = some (.int .u64 k0) := by rw [cell_of_block q2]; rfl
          have d1 : (w2).cell? ⟨b12, 1, none⟩ = some (.int .u64 k1) := by rw [cell_of_block q2]; rfl
          have d2 : (w2).cell? ⟨b12, 2, none⟩ = some (.int .u64 k2) := by rw [cell_of_block q2]; rfl
          have d3 : (w2).cell? ⟨b12, 3, none⟩ = some (.int .u64 k3) := by rw [cell_of_block q2]; rfl
          have d4 : (w2).cell? ⟨b12, 4, none⟩ = some (.int .u64 k4) := by rw [cell_of_block q2]; rfl
          have d5 : (w2).cell? ⟨b12, 5, none⟩ = some (.int .u64 k5) := by rw [cell_of_block q2]; rfl
          have l8 := (Array.getElem?_eq_some_iff.1 r2).1
          have l12 := (Array.getElem?_eq_some_iff.1 q2).1
          have H2 := Lib.hid (And.intro B2 (And.intro r2 q2))
          have hle12 := Lib.hid hlt1
          clear hb1 hal q2 r2 B2 hlt1
          go_wp2_with fail
          refine (HG.out.2.2.2.2.1 _ _ (HG.out.2.2.2.2.2.2.wide H2.out.1)).mono ?_
          rintro e w3 ⟨rfl, h3, k3'⟩
          have r3 := (k3'.block w.heap.size (Or.inr ⟨Nat.le_refl _, l8⟩)).trans H2.out.2.1
          have q3 := (k3'.block b12 (Or.inr ⟨hle12.out, l12⟩)).trans H2.out.2.2
          have e0 : (w3).cell? ⟨w.heap.size, 0, none⟩ = some (PV ps) := by rw [cell_of_block r3]; rfl
          have e1 : (w3).cell? ⟨w.heap.size, 1, none⟩ = some (.func (.func j) #[] #[]) := by rw [cell_of_block r3]; rfl
          have e2 : (w3).cell? ⟨w.heap.size, 2, none⟩ = some (.func (.func c) #[] #[]) := by rw [cell_of_block r3]; rfl
          have g0 : (w3).cell? ⟨b12, 0, none⟩ = some (.int .u64 k0) := by rw [cell_of_block q3]; rfl
          have g1 : (w3).cell? ⟨b12, 1, none⟩ = some (.int .u64 k1) := by rw [cell_of_block q3]; rfl
          have g2 : (w3).cell? ⟨b12, 2, none⟩ = some (.int .u64 k2) := by rw [cell_of_block q3]; rfl
          have g3 : (w3).cell? ⟨b12, 3, none⟩ = some (.int .u64 k3) := by rw [cell_of_block q3]; rfl
          have g4 : (w3).cell? ⟨b12, 4, none⟩ = some (.int .u64 k4) := by rw [cell_of_block q3]; rfl
          have g5 : (w3).cell? ⟨b12, 5, none⟩ = some (.int .u64 k5) := by rw [cell_of_block q3]; rfl
          have H3 := Lib.hid (And.intro h3 k3')
          clear h3 k3' r3 q3 c0 c1 c2 d0 d1 d2 d3 d4 d5
          go_wp2_with fail
          refine (HG.out.2.2.2.2.2.1 _ _ H3.out.1).mono ?_
          rintro e w4 ⟨rfl, h4, k4'⟩
          have H4 := Lib.hid (And.intro (h4.mono (Z := Y) fun k hk => Or.inl hk) ((Keep.of_below H2.out.1 HG.out.2.2.2.2.2.2.yl).trans ((H3.out.2.trans k4').mono fun k hk => Or.inl hk)))
          clear h4 k4' e0 e1 e2 g0 g1 g2 g3 g4 g5
          go_wp2_with fail
          go_ret3
          exact ⟨rfl, H4.out⟩
        · rename_i hc2
          have hq5 : (cmpB key k < 0) = False := eq_false hc
          have hq8 : (0 < cmpB key k) = False := eq_false hc2
          have hs := Option.some.inj hs
          injection hs with e1 e2
          injection e1 with e1 e3
          injection e3 with e3 e4
          subst e1 e2 e3 e4
          refine ⟨?_, hi, hlt.left, hl, hlt.right⟩
          have hrec := True.intro
          have hjoin := True.intro
          obtain ⟨⟨⟨k0, k1, k2, k3, k4, k5⟩, er⟩, hE⟩ : ∃ q, getNode S root = q := ⟨_, rfl⟩
          rw [hE] at hkey hlt ⊢
          simp only at hlt ⊢
          simp only [cutV, fnV, ndV] at q0 B0 hkey ⊢
          have HG := Lib.hid (And.intro hkey (And.intro hcmp (And.intro q0 (And.intro B0 h))))
          clear hkey hcmp q0 B0 hrec hjoin h hi hE hk hjn ih hd h0 hlt hl
          go_enter Tryz.func371, Tryz.ntmps371
          go_wp2_with fail
          refine (HG.out.1 _ HG.out.2.2.2.1).mono ?_
          rintro e w1 ⟨rfl, hb1⟩
          have hal := hb1.alloc hb1.size (.cells #[.int .u64 k0, .int .u64 k1, .int .u64 k2, .int .u64 k3, .int .u64 k4, .int .u64 k5] 274)
          have q2 := heap_alloc_new w1 (.cells #[.int .u64 k0, .int .u64 k1, .int .u64 k2, .int .u64 k3, .int .u64 k4, .int .u64 k5] 274)
          have r2 := (hal.block w.heap.size (by simp)).trans HG.out.2.2.1
          have hlt1 : w.heap.size ≤ w1.heap.size := by have := hb1.size; simp at this; omega
          have B2 := HG.out.2.2.2.1.trans (hal.mono HG.out.2.2.2.1.size)
          go_wp2_with fail
          generalize w1.alloc (.cells #[.int .u64 k0, .int .u64 k1, .int .u64 k2, .int .u64 k3, .int .u64 k4, .int .u64 k5] 274) = W at *
          generalize w1.heap.size = b12 at *
          refine (HG.out.2.1 _).mono ?_
          rintro e w2 ⟨rfl, rfl⟩
          have c0 : (w2).cell? ⟨w.heap.size, 0, none⟩ = some (PV ps) := by rw [cell_of_block r2]; rfl
          have c1 : (w2).cell? ⟨w.heap.size, 1, none⟩ = some (.func (.func j) #[] #[]) := by rw [cell_of_block r2]; rfl
          have c2 : (w2).cell? ⟨w.heap.size, 2, none⟩ = some (.func (.func c) #[] #[]) := by rw [cell_of_block r2]; rfl
          have d0 : (w2).cell? ⟨b12, 0, none⟩ = some (.int .u64 k0) := by rw [cell_of_block q2]; rfl
          have d1 : (w2).cell? ⟨b12, 1, none⟩ = some (.int .u64 k1) := by rw [cell_of_block q2]; rfl
          have d2 : (w2).cell? ⟨b12, 2, none⟩ = some (.int .u64 k2) := by rw [cell_of_block q2]; rfl
          have d3 : (w2).cell? ⟨b12, 3, none⟩ = some (.int .u64 k3) := by rw [cell_of_block q2]; rfl
          have d4 : (w2).cell? ⟨b12, 4, none⟩ = some (.int .u64 k4) := by rw [cell_of_block q2]; rfl
          have d5 : (w2).cell? ⟨b12, 5, none⟩ = some (.int .u64 k5) := by rw [cell_of_block q2]; rfl
          have l8 := (Array.getElem?_eq_some_iff.1 r2).1
          have l12 := (Array.getElem?_eq_some_iff.1 q2).1
          have H2 := Lib.hid (And.intro B2 (And.intro r2 q2))
          have hle12 := Lib.hid hlt1
          clear hb1 hal q2 r2 B2 hlt1
          go_wp2_with fail
          go_quiet (fail)
          go_wp2_with fail
          go_ret3
          exact ⟨rfl, HG.out.2.2.2.2.below (H2.out.1.trans ⟨rfl, rfl, rfl, Nat.le_refl _, fun _ _ => rfl⟩), HG.out.2.2.2.2.keep (H2.out.1.trans ⟨rfl, rfl, rfl, Nat.le_refl _, fun _ _ => rfl⟩)⟩
end Go.Proofs.YtoaabbnieakidaaGreatDoorR

namespace Go.Proofs.YtoaabbnieakidaaGreatDoorR
open Go.RowKit Go.BigFrame Go.Maps Go.WideMaps Lf

/-- Insert where it is not refused -/
def Lf.insertOkM (jn : Jn) (S : St) (root m : Nat) : Option ((Nat × Nat) × St) :=
  if isT S root = false ∨ isT S m = false ∨ m = 0 ∨ (getBlob S (getNode S m).1.key).2 ≠ 0 then none
  else match splitM jn (getBlob S (getNode S m).1.key).1 200 S root with
    | none => none
    | some ((l, old, r), S1) => (cjoinM jn S1 l m r).map fun x => ((x.1, old), x.2)

set_option maxRecDepth 100000 in
set_option maxHeartbeats 3200000 in
theorem parts_insert {w : World} {ps : Nat} {S S' : St} {Y : Nat → Prop} (h : StOn w ps S Y) (hi : Inv S) {kind : Nat} {j c : FuncId} {jn : Jn} (hjn : JoinsAs j jn) (hk : WayOk kind j c) (root m : Nat) (hl : root < 18446744073709551616) (hm : m < 18446744073709551616) {R : Nat × Nat} (hR : insertOkM jn S root m = some (R, S')) :
    (Calls Tryz.prog 366 #[PV ps, .int .i64 kind, .int .u64 root, .int .u64 m] w fun e w' => e = .returned (.tuple #[.int .u64 R.1, .int .u64 R.2, .int .i64 0]) ∧ StOn w' ps S' Y ∧ Keep Y w w') ∧ Inv S' ∧ R.1 < 18446744073709551616 ∧ R.2 < 18446744073709551616 := by
  unfold insertOkM at hR
  split at hR
  · cases hR
  rename_i hc
  simp only [not_or, Bool.not_eq_false, Decidable.not_not] at hc
  obtain ⟨t1, t2, m0, hg0⟩ := hc
  split at hR
  · cases hR
  rename_i l old r S1 hs
  obtain ⟨⟨x, S2⟩, hj1, he⟩ := Option.map_eq_some_iff.1 hR
  injection he with e1 e2
  simp only at e1 e2 hj1
  subst e1 e2
  have hlt := getNode_lt h m
  obtain ⟨-, hi1, hl1, hold, hr1⟩ := cut_split (c := c) hjn _ 200 0 rfl h hi hl hs
  have hsp := fun W Z (hW : StOn W ps S Z) => (cut_split (c := c) hjn _ 200 0 rfl hW hi hl hs).1
  have hjs := cjoinM_some hjn hj1
  have hjo := fun W Z (hW : StOn W ps S1 Z) => cut_join (c := c) hW hi1 hjn l m r hl1 hm hr1 hj1
  refine ⟨?_, hjn.inv hi1 hjs, by rcases hjn.mem hi1 hjs with e | e | e <;> simp only at e <;> first | (rw [e]; exact hm) | (rw [e]; exact hl1) | (rw [e]; exact hr1), hold⟩
  have hg := fun W (hW : Below w.heap.size w W) => node_get (h.below hW) hi m hm
  have hb := fun W (hW : Below w.heap.size w W) => blob_get (h.below hW) hi (getNode S m).1.key hlt.key (by rw [hg0]; decide)
  have hw := fun W (hW : Below w.heap.size w W) rb t fr hrb => asked_two (t := t) (fr := fr) (h.below hW) hi hk root m hl hm t1 t2 rb hrb
  rw [hg0] at hb
  generalize (getBlob S (getNode S m).1.key).1 = key at *
  obtain ⟨⟨⟨k0, k1, k2, k3, k4, k5⟩, er⟩, hE⟩ : ∃ q, getNode S m = q := ⟨_, rfl⟩
  rw [hE] at hg hb
  simp only [cutV, fnV, ndV] at hg hb hw hsp hjo ⊢
  have hmq : ((m : Int) == 0) = false := by simp; omega
  have HG := Lib.hid (And.intro hg (And.intro hb (And.intro hw (And.intro hsp (And.intro hjo h)))))
  clear hg hb hw hsp hjo h hi hE hjn hk hR t1 t2 m0 hg0 hs hj1 hlt hi1 hl1 hold hr1 hjs
  go_enter Tryz.func366, Tryz.ntmps366
  go_wp2_with fail
  refine (HG.out.2.2.1 _ ((Below.refl _ w).alloc (Nat.le_refl _) _) _ _ _ (heap_alloc_new w _)).mono ?_
  rintro e w1 ⟨rfl, hb1⟩
  have B1 := ((Below.refl w.heap.size w).alloc (Nat.le_refl _) (.cells #[.int .u64 root, .int .u64 m] 61)).trans (hb1.mono (by simp))
  have q1 := heap_alloc_new w1 (.cells #[PV ps, .func (.func j) #[] #[], .func (.func c) #[] #[]] 343)
  have B1' := B1.alloc B1.size (.cells #[PV ps, .func (.func j) #[] #[], .func (.func c) #[] #[]] 343)
  have z1 := B1.size
  clear hb1 B1
  go_wp2_with fail
  generalize w1.alloc (.cells #[PV ps, .func (.func j) #[] #[], .func (.func c) #[] #[]] 343) = W1 at *
  generalize w1.heap.size = b11 at *
  refine (HG.out.1 _ B1').mono ?_
  rintro e w2 ⟨rfl, hb2⟩
  have hal := hb2.alloc hb2.size (.cells #[.int .u64 k0, .int .u64 k1, .int .u64 k2, .int .u64 k3, .int .u64 k4, .int .u64 k5] 274)
  have q2 := heap_alloc_new w2 (.cells #[.int .u64 k0, .int .u64 k1, .int .u64 k2, .int .u64 k3, .int .u64 k4, .int .u64 k5] 274)
  have r2 := (hal.block b11 (Array.getElem?_eq_some_iff.1 q1).1).trans q1
  have B2 := B1'.trans (hal.mono B1'.size)
  have d0 : ((w2.alloc (.cells #[.int .u64 k0, .int .u64 k1, .int .u64 k2, .int .u64 k3, .int .u64 k4, .int .u64 k5] 274))).cell? ⟨w2.heap.size, 0, none⟩ = some (.int .u64 k0) := by rw [cell_of_block q2]; rfl
  have d1 : ((w2.alloc (.cells #[.int .u64 k0, .int .u64 k1, .int .u64 k2, .int .u64 k3, .int .u64 k4, .int .u64 k5] 274))).cell? ⟨w2.heap.size, 1, none⟩ = some (.int .u64 k1) := by rw [cell_of_block q2]; rfl
  have d2 : ((w2.alloc (.cells #[.int .u64 k0, .int .u64 k1, .int .u64 k2, .int .u64 k3, .int .u64 k4, .int .u64 k5] 274))).cell? ⟨w2.heap.size, 2, none⟩ = some (.int .u64 k2) := by rw [cell_of_block q2]; rfl
  have d3 : ((w2.alloc (.cells #[.int .u64 k0, .int .u64 k1, .int .u64 k2, .int .u64 k3, .int .u64 k4, .int .u64 k5] 274))).cell? ⟨w2.heap.size, 3, none⟩ = some (.int .u64 k3) := by rw [cell_of_block q2]; rfl
  have d4 : ((w2.alloc (.cells #[.int .u64 k0, .int .u64 k1, .int .u64 k2, .int .u64 k3, .int .u64 k4, .int .u64 k5] 274))).cell? ⟨w2.heap.size, 4, none⟩ = some (.int .u64 k4) := by rw [cell_of_block q2]; rfl
  have d5 : ((w2.alloc (.cells #[.int .u64 k0, .int .u64 k1, .int .u64 k2, .int .u64 k3, .int .u64 k4, .int .u64 k5] 274))).cell? ⟨w2.heap.size, 5, none⟩ = some (.int .u64 k5) := by rw [cell_of_block q2]; rfl
  have H2 := Lib.hid (And.intro B2 (And.intro r2 z1))
  clear hb2 hal q2 r2 B2 B1' q1 z1
  go_wp2_with fail
  refine (HG.out.2.1 _ H2.out.1).mono ?_
  rintro e w3 ⟨rfl, hb3⟩
  have r3 := (hb3.block b11 (Array.getElem?_eq_some_iff.1 H2.out.2.1).1).trans H2.out.2.1
  have e0 : (w3).cell? ⟨b11, 0, none⟩ = some (PV ps) := by rw [cell_of_block r3]; rfl
  have e1 : (w3).cell? ⟨b11, 1, none⟩ = some (.func (.func j) #[] #[]) := by rw [cell_of_block r3]; rfl
  have e2 : (w3).cell? ⟨b11, 2, none⟩ = some (.func (.func c) #[] #[]) := by rw [cell_of_block r3]; rfl
  have l11 := (Array.getElem?_eq_some_iff.1 r3).1
  have H3 := Lib.hid (And.intro (H2.out.1.trans (hb3.mono H2.out.1.size)) r3)
  clear hb3 r3 d0 d1 d2 d3 d4 d5
  go_wp2_with fail
  refine (HG.out.2.2.2.1 _ _ (HG.out.2.2.2.2.2.wide H3.out.1)).mono ?_
  rintro e w4 ⟨rfl, h4, k4'⟩
  have r4 := (k4'.block b11 (Or.inr ⟨H2.out.2.2, l11⟩)).trans H3.out.2
  have f0 : (w4).cell? ⟨b11, 0, none⟩ = some (PV ps) := by rw [cell_of_block r4]; rfl
  have f1 : (w4).cell? ⟨b11, 1, none⟩ = some (.func (.func j) #[] #[]) := by rw [cell_of_block r4]; rfl
  have f2 : (w4).cell? ⟨b11, 2, none⟩ = some (.func (.func c) #[] #[]) := by rw [cell_of_block r4]; rfl
  have H4 := Lib.hid (And.intro h4 k4')
  clear h4 k4' r4 e0 e1 e2
  go_wp2_with fail
  refine (HG.out.2.2.2.2.1 _ _ H4.out.1).mono ?_
  rintro e w5 ⟨rfl, h5, k5'⟩
  have H5 := Lib.hid (And.intro (h5.mono (Z := Y) fun k hk => Or.inl hk) ((Keep.of_below H3.out.1 HG.out.2.2.2.2.2.yl).trans ((H4.out.2.trans k5').mono fun k hk => Or.inl hk)))
  clear h5 k5' f0 f1 f2
  go_wp2_with fail
  go_ret3
  exact ⟨rfl, H5.out⟩
end Go.Proofs.YtoaabbnieakidaaGreatDoorR
