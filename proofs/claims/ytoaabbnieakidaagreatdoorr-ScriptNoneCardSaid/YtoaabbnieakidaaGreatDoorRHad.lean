/- Scripts: Next by an act; an act of a cursor that may not be, or is not: the walks. Scripts: the stores that a script's law goes through, computed; its acts' steps. Scripts: what is asked at a law's end: the walk. -/
import Derived.Test.YtoaabbnieakidaaGreatDoorRHac
import Derived.Test.YtoaabbnieakidaaGreatDoorRHab
import Derived.Test.YtoaabbnieakidaaGreatDoorRGbr
namespace Go.Proofs.YtoaabbnieakidaaGreatDoorR
open Go.RowKit Go.BigFrame Go.Maps Go.WideMaps Lf

theorem Cl.fin {w : World} {P : (Nat → Prop) → World → Prop} (cP : Cl w P) {X : Nat → Prop} {W V : World} (hP : P X W) (hb : Below W.heap.size W V) (er : Nat) : StepQ P X W ⟨er, 0, []⟩ (.returned (.agg #[.int .i64 er, .int .i64 0, .slice none 0 0])) V := by
  obtain ⟨Z, zx, -, PZ⟩ := cP.grow hP hb
  exact ⟨_, Z, rfl, zx, PRowX.nil _ _, PZ, Keep.of_below hb (cP.lt hP)⟩

set_option maxRecDepth 100000 in
set_option maxHeartbeats 3200000 in
theorem sc_next_ok {w W : World} {pw limit root hh is is' : Nat} {S S' : St} {X : Nat → Prop} (ht : Tab64 w) (hP : ScC w pw limit S root hh is X W) (a b p1 p2 : List UInt8) (hn : ∀ ps pm px pc Y V, CuAt limit w ps pm px pc S root Y hh is V → Calls Tryz.prog 70 #[PV pc] V fun e w' => e = .returned (.tuple #[.agg #[SV p1, SV p2], .int .i64 0]) ∧ CuAt limit w ps pm px pc S' root Y hh is' w' ∧ Keep (fun k => Y k ∧ k ≠ pc) V w') :
    Calls Tryz.prog 44 #[PV pw, .agg #[.int .i64 16, .int .i64 0, SV a, SV b]] W fun e w' => StepQ (ScC w pw limit S' root hh is') X W ⟨0, 0, [(p1, p2)]⟩ e w' := by
  have cP := scc_cl ht pw limit S root hh is
  have cP' := scc_cl ht pw limit S' root hh is'
  have B1 := (Below.refl W.heap.size W).alloc (Nat.le_refl _) (.cells #[.int .i64 16, .int .i64 0, SV a, SV b] 23)
  have z1 : (W.alloc (.cells #[.int .i64 16, .int .i64 0, SV a, SV b] 23)).heap.size = W.heap.size + 1 := by simp
  have A2 := (Below.refl _ (W.alloc (.cells #[.int .i64 16, .int .i64 0, SV a, SV b] 23))).alloc (Nat.le_refl _) (.cells #[.int .i64 0, .int .i64 0, .slice none 0 0] 35)
  have B2 := B1.alloc B1.size (.cells #[.int .i64 0, .int .i64 0, .slice none 0 0] 35)
  have q1 := heap_alloc_new W (.cells #[.int .i64 16, .int .i64 0, SV a, SV b] 23)
  have q2 := (A2.block W.heap.size (by omega)).trans q1
  have y2 := heap_alloc_new (W.alloc (.cells #[.int .i64 16, .int .i64 0, SV a, SV b] 23)) (.cells #[.int .i64 0, .int .i64 0, .slice none 0 0] 35)
  rw [z1] at y2
  have z2 : ((W.alloc (.cells #[.int .i64 16, .int .i64 0, SV a, SV b] 23)).alloc (.cells #[.int .i64 0, .int .i64 0, .slice none 0 0] 35)).heap.size = W.heap.size + 2 := by simp
  obtain ⟨Z, zx, zn, hP2⟩ := cP.grow hP B2
  have zb3 : Z W.heap.size := zn _ (Nat.le_refl _) (by omega)
  have zb4 : Z (W.heap.size + 1) := zn _ (Nat.le_succ _) (by omega)
  have lw := (cP.bl hP).size
  have hlt := cP.lt hP
  have kX : Keep X W ((W.alloc (.cells #[.int .i64 16, .int .i64 0, SV a, SV b] 23)).alloc (.cells #[.int .i64 0, .int .i64 0, .slice none 0 0] 35)) := Keep.of_below B2 hlt
  obtain ⟨ps, pm, px, pc, Y, h, hw, hy, n1, n2, n3, l1, hx⟩ := hP2.ex
  have hnx := fun q => hn ps pm px pc Y _ (h.below (w' := ((W.alloc (.cells #[.int .i64 16, .int .i64 0, SV a, SV b] 23)).alloc (.cells #[.int .i64 0, .int .i64 0, .slice none 0 0] 35)).drewN q) ⟨rfl, rfl, rfl, Nat.le_refl _, fun _ _ => rfl⟩)
  have hww := hw
  unfold WoOn at hww
  have c0 : (((W.alloc (.cells #[.int .i64 16, .int .i64 0, SV a, SV b] 23)).alloc (.cells #[.int .i64 0, .int .i64 0, .slice none 0 0] 35))).cell? ⟨W.heap.size, 0, none⟩ = some (.int .i64 16) := by rw [cell_of_block q2]; rfl
  have c1 : (((W.alloc (.cells #[.int .i64 16, .int .i64 0, SV a, SV b] 23)).alloc (.cells #[.int .i64 0, .int .i64 0, .slice none 0 0] 35))).cell? ⟨W.heap.size, 1, none⟩ = some (.int .i64 0) := by rw [cell_of_block q2]; rfl
  have c2 : (((W.alloc (.cells #[.int .i64 16, .int .i64 0, SV a, SV b] 23)).alloc (.cells #[.int .i64 0, .int .i64 0, .slice none 0 0] 35))).cell? ⟨W.heap.size, 2, none⟩ = some (SV a) := by rw [cell_of_block q2]; rfl
  have c3 : (((W.alloc (.cells #[.int .i64 16, .int .i64 0, SV a, SV b] 23)).alloc (.cells #[.int .i64 0, .int .i64 0, .slice none 0 0] 35))).cell? ⟨W.heap.size, 3, none⟩ = some (SV b) := by rw [cell_of_block q2]; rfl
  have g0 : (((W.alloc (.cells #[.int .i64 16, .int .i64 0, SV a, SV b] 23)).alloc (.cells #[.int .i64 0, .int .i64 0, .slice none 0 0] 35))).cell? ⟨pw, 0, none⟩ = some (PV pm) := by rw [cell_of_block hww]; rfl
  have g1 : (((W.alloc (.cells #[.int .i64 16, .int .i64 0, SV a, SV b] 23)).alloc (.cells #[.int .i64 0, .int .i64 0, .slice none 0 0] 35))).cell? ⟨pw, 1, none⟩ = some (PV pc) := by rw [cell_of_block hww]; rfl
  have g2 : (((W.alloc (.cells #[.int .i64 16, .int .i64 0, SV a, SV b] 23)).alloc (.cells #[.int .i64 0, .int .i64 0, .slice none 0 0] 35))).cell? ⟨pw, 2, none⟩ = some (.pointer none) := by rw [cell_of_block hww]; rfl
  have g3 : (((W.alloc (.cells #[.int .i64 16, .int .i64 0, SV a, SV b] 23)).alloc (.cells #[.int .i64 0, .int .i64 0, .slice none 0 0] 35))).cell? ⟨pw, 3, none⟩ = some (.pointer none) := by rw [cell_of_block hww]; rfl
  have g4 : (((W.alloc (.cells #[.int .i64 16, .int .i64 0, SV a, SV b] 23)).alloc (.cells #[.int .i64 0, .int .i64 0, .slice none 0 0] 35))).cell? ⟨pw, 4, none⟩ = some (.pointer none) := by rw [cell_of_block hww]; rfl
  have HX := Lib.hid (And.intro hw (And.intro hy (And.intro n1 (And.intro n2 (And.intro n3 (And.intro l1 hx))))))
  have HZ := Lib.hid (And.intro q2 (And.intro y2 (And.intro zx (And.intro zb3 (And.intro zb4 (And.intro lw (And.intro hlt kX)))))))
  have HC := Lib.hid (And.intro cP' hnx)
  clear cP cP' B1 z1 A2 B2 q1 q2 y2 z2 zx zn hP2 zb3 zb4 lw hlt kX h hw hy n1 n2 n3 l1 hx hnx hP ht hn hww
  go_enter Tryz.func44, Tryz.ntmps44
  go_wp2_with fail
  go_quiet (fail)
  go_wp2_with fail
  refine (HC.out.2 _).mono ?_
  rintro e w5 ⟨rfl, c5, k5⟩
  obtain ⟨hw, hy, n1, n2, n3, l1, hx⟩ := HX.out
  obtain ⟨q2, y2, zx, zb3, zb4, lw, hlt, kX⟩ := HZ.out
  have hw5 : WoOn w5 pw pm (PV pc) := (k5.block pw ⟨hy, n3⟩).trans hw
  have y5 : w5.heap[W.heap.size + 1]? = some (.cells #[.int .i64 0, .int .i64 0, .slice none 0 0] 35) := (k5.block _ ⟨(hx _ zb4).1, (hx _ zb4).2.2.2.2⟩).trans y2
  have P5 : ScC w pw limit S' root hh is' Z w5 := ⟨ps, pm, px, pc, Y, c5, hw5, hy, n1, n2, n3, l1, hx⟩
  have K5 : Keep X W w5 := kX.trans ((Keep.drewN X _ _).trans (k5.mono fun k hk => ⟨(hx k (zx k hk)).1, (hx k (zx k hk)).2.2.2.2⟩))
  have H5 := Lib.hid (And.intro P5 (And.intro K5 (And.intro y5 (And.intro zx (And.intro zb4 (And.intro lw hlt))))))
  clear hw hy n1 n2 n3 l1 hx q2 y2 zx zb3 zb4 lw hlt kX hw5 y5 P5 K5 c5 k5 HX HZ c0 c1 c2 c3 g0 g1 g2 g3 g4
  go_wp2_with fail

  refine (one_ok w5 p1 p2).mono ?_
  rintro e w6 ⟨rfl, b6, r6⟩
  obtain ⟨P5, K5, y5, zx, zb4, lw, hlt⟩ := H5.out
  obtain ⟨Z6, zx6, zn6, P6⟩ := HC.out.1.grow P5 b6
  have y6 := (b6.block _ (Array.getElem?_eq_some_iff.1 y5).1).trans y5
  have K6 := K5.trans (Keep.of_below b6 fun k hk => HC.out.1.lt P5 k (zx k hk))
  have zr : Z6 (w5.heap.size + 2) := zn6 _ (by omega) (Array.getElem?_eq_some_iff.1 r6).1
  have row : PRowX (fun b => Z6 b ∧ W.heap.size ≤ b) w6 (.slice (some ⟨w5.heap.size + 2, 0, none⟩) 1 1) [(p1, p2)] := ⟨PRow.one r6, fun g o s n c e => by cases e; exact ⟨zr, by have := K5.size; omega⟩⟩
  have row' := row.answer y6 (.int .i64 0) (.int .i64 0) (.slice (some ⟨w5.heap.size + 2, 0, none⟩) 1 1)
  have ans := HC.out.1.answer P6 (zx6 _ zb4) (by omega) y6 K6 (fun k hk => by have := hlt k hk; omega) (.int .i64 0) (.int .i64 0) (.slice (some ⟨w5.heap.size + 2, 0, none⟩) 1 1)
  have f0 : (w6).frozen? ⟨(W.heap.size + 1), 0, none⟩ = false := frozen_of_block y6
  have f1 : (w6).frozen? ⟨(W.heap.size + 1), 1, none⟩ = false := frozen_of_block y6
  have f2 : (w6).frozen? ⟨(W.heap.size + 1), 2, none⟩ = false := frozen_of_block y6
  have c0 : (w6).cell? ⟨(W.heap.size + 1), 0, none⟩ = some (.int .i64 0) := by rw [cell_of_block y6]; rfl
  have c1 : (w6).cell? ⟨(W.heap.size + 1), 1, none⟩ = some (.int .i64 0) := by rw [cell_of_block y6]; rfl
  have c2 : (w6).cell? ⟨(W.heap.size + 1), 2, none⟩ = some (.slice none 0 0) := by rw [cell_of_block y6]; rfl
  have HB := Lib.hid (And.intro ans (And.intro row' fun k hk => zx6 k (zx k hk)))
  clear ans row' row zr K6 y6 P6 zx6 zn6 P5 K5 y5 zx zb4 lw hlt b6 r6 H5 HC
  go_wp2_with fail
  obtain ⟨⟨P7, K7, q7⟩, row', zx⟩ := HB.out
  generalize (((w6.setCell ⟨(W.heap.size + 1), 0, none⟩ (.int .i64 0)).setCell ⟨(W.heap.size + 1), 1, none⟩ (.int .i64 0)).setCell ⟨(W.heap.size + 1), 2, none⟩ (.slice (some ⟨w5.heap.size + 2, 0, none⟩) 1 1)) = w7 at *
  have e0 : (w7).cell? ⟨(W.heap.size + 1), 0, none⟩ = some (.int .i64 0) := by rw [cell_of_block q7]; rfl
  have e1 : (w7).cell? ⟨(W.heap.size + 1), 1, none⟩ = some (.int .i64 0) := by rw [cell_of_block q7]; rfl
  have e2 : (w7).cell? ⟨(W.heap.size + 1), 2, none⟩ = some (.slice (some ⟨w5.heap.size + 2, 0, none⟩) 1 1) := by rw [cell_of_block q7]; rfl
  exact bodyPost_ret (v := .agg #[.int .i64 0, .int .i64 0, .slice (some ⟨w5.heap.size + 2, 0, none⟩) 1 1]) (by simp [results, Tryz.f44, go_sem, e0, e1, e2]) rfl ⟨_, Z6, rfl, zx, row', P7, K7⟩

set_option maxRecDepth 100000 in
set_option maxHeartbeats 3200000 in
theorem sc_next_err {w W : World} {pw limit root hh is is' : Nat} {S S' : St} {X : Nat → Prop} (ht : Tab64 w) (hP : ScC w pw limit S root hh is X W) (a b p1 p2 : List UInt8) (er : Nat) (h0 : er ≠ 0) (hn : ∀ ps pm px pc Y V, CuAt limit w ps pm px pc S root Y hh is V → Calls Tryz.prog 70 #[PV pc] V fun e w' => e = .returned (.tuple #[.agg #[SV p1, SV p2], .int .i64 er]) ∧ CuAt limit w ps pm px pc S' root Y hh is' w' ∧ Keep (fun k => Y k ∧ k ≠ pc) V w') :
    Calls Tryz.prog 44 #[PV pw, .agg #[.int .i64 16, .int .i64 0, SV a, SV b]] W fun e w' => StepQ (ScC w pw limit S' root hh is') X W ⟨er, 0, []⟩ e w' := by
  have cP := scc_cl ht pw limit S root hh is
  have cP' := scc_cl ht pw limit S' root hh is'
  have B1 := (Below.refl W.heap.size W).alloc (Nat.le_refl _) (.cells #[.int .i64 16, .int .i64 0, SV a, SV b] 23)
  have z1 : (W.alloc (.cells #[.int .i64 16, .int .i64 0, SV a, SV b] 23)).heap.size = W.heap.size + 1 := by simp
  have A2 := (Below.refl _ (W.alloc (.cells #[.int .i64 16, .int .i64 0, SV a, SV b] 23))).alloc (Nat.le_refl _) (.cells #[.int .i64 0, .int .i64 0, .slice none 0 0] 35)
  have B2 := B1.alloc B1.size (.cells #[.int .i64 0, .int .i64 0, .slice none 0 0] 35)
  have q1 := heap_alloc_new W (.cells #[.int .i64 16, .int .i64 0, SV a, SV b] 23)
  have q2 := (A2.block W.heap.size (by omega)).trans q1
  have y2 := heap_alloc_new (W.alloc (.cells #[.int .i64 16, .int .i64 0, SV a, SV b] 23)) (.cells #[.int .i64 0, .int .i64 0, .slice none 0 0] 35)
  rw [z1] at y2
  have z2 : ((W.alloc (.cells #[.int .i64 16, .int .i64 0, SV a, SV b] 23)).alloc (.cells #[.int .i64 0, .int .i64 0, .slice none 0 0] 35)).heap.size = W.heap.size + 2 := by simp
  obtain ⟨Z, zx, zn, hP2⟩ := cP.grow hP B2
  have zb3 : Z W.heap.size := zn _ (Nat.le_refl _) (by omega)
  have zb4 : Z (W.heap.size + 1) := zn _ (Nat.le_succ _) (by omega)
  have lw := (cP.bl hP).size
  have hlt := cP.lt hP
  have kX : Keep X W ((W.alloc (.cells #[.int .i64 16, .int .i64 0, SV a, SV b] 23)).alloc (.cells #[.int .i64 0, .int .i64 0, .slice none 0 0] 35)) := Keep.of_below B2 hlt
  obtain ⟨ps, pm, px, pc, Y, h, hw, hy, n1, n2, n3, l1, hx⟩ := hP2.ex
  have hnx := fun q => hn ps pm px pc Y _ (h.below (w' := ((W.alloc (.cells #[.int .i64 16, .int .i64 0, SV a, SV b] 23)).alloc (.cells #[.int .i64 0, .int .i64 0, .slice none 0 0] 35)).drewN q) ⟨rfl, rfl, rfl, Nat.le_refl _, fun _ _ => rfl⟩)
  have hww := hw
  unfold WoOn at hww
  have c0 : (((W.alloc (.cells #[.int .i64 16, .int .i64 0, SV a, SV b] 23)).alloc (.cells #[.int .i64 0, .int .i64 0, .slice none 0 0] 35))).cell? ⟨W.heap.size, 0, none⟩ = some (.int .i64 16) := by rw [cell_of_block q2]; rfl
  have c1 : (((W.alloc (.cells #[.int .i64 16, .int .i64 0, SV a, SV b] 23)).alloc (.cells #[.int .i64 0, .int .i64 0, .slice none 0 0] 35))).cell? ⟨W.heap.size, 1, none⟩ = some (.int .i64 0) := by rw [cell_of_block q2]; rfl
  have c2 : (((W.alloc (.cells #[.int .i64 16, .int .i64 0, SV a, SV b] 23)).alloc (.cells #[.int .i64 0, .int .i64 0, .slice none 0 0] 35))).cell? ⟨W.heap.size, 2, none⟩ = some (SV a) := by rw [cell_of_block q2]; rfl
  have c3 : (((W.alloc (.cells #[.int .i64 16, .int .i64 0, SV a, SV b] 23)).alloc (.cells #[.int .i64 0, .int .i64 0, .slice none 0 0] 35))).cell? ⟨W.heap.size, 3, none⟩ = some (SV b) := by rw [cell_of_block q2]; rfl
  have g0 : (((W.alloc (.cells #[.int .i64 16, .int .i64 0, SV a, SV b] 23)).alloc (.cells #[.int .i64 0, .int .i64 0, .slice none 0 0] 35))).cell? ⟨pw, 0, none⟩ = some (PV pm) := by rw [cell_of_block hww]; rfl
  have g1 : (((W.alloc (.cells #[.int .i64 16, .int .i64 0, SV a, SV b] 23)).alloc (.cells #[.int .i64 0, .int .i64 0, .slice none 0 0] 35))).cell? ⟨pw, 1, none⟩ = some (PV pc) := by rw [cell_of_block hww]; rfl
  have g2 : (((W.alloc (.cells #[.int .i64 16, .int .i64 0, SV a, SV b] 23)).alloc (.cells #[.int .i64 0, .int .i64 0, .slice none 0 0] 35))).cell? ⟨pw, 2, none⟩ = some (.pointer none) := by rw [cell_of_block hww]; rfl
  have g3 : (((W.alloc (.cells #[.int .i64 16, .int .i64 0, SV a, SV b] 23)).alloc (.cells #[.int .i64 0, .int .i64 0, .slice none 0 0] 35))).cell? ⟨pw, 3, none⟩ = some (.pointer none) := by rw [cell_of_block hww]; rfl
  have g4 : (((W.alloc (.cells #[.int .i64 16, .int .i64 0, SV a, SV b] 23)).alloc (.cells #[.int .i64 0, .int .i64 0, .slice none 0 0] 35))).cell? ⟨pw, 4, none⟩ = some (.pointer none) := by rw [cell_of_block hww]; rfl
  have HX := Lib.hid (And.intro hw (And.intro hy (And.intro n1 (And.intro n2 (And.intro n3 (And.intro l1 hx))))))
  have HZ := Lib.hid (And.intro q2 (And.intro y2 (And.intro zx (And.intro zb3 (And.intro zb4 (And.intro lw (And.intro hlt kX)))))))
  have HC := Lib.hid (And.intro cP' hnx)
  clear cP cP' B1 z1 A2 B2 q1 q2 y2 z2 zx zn hP2 zb3 zb4 lw hlt kX h hw hy n1 n2 n3 l1 hx hnx hP ht hn hww
  go_enter Tryz.func44, Tryz.ntmps44
  go_wp2_with fail
  go_quiet (fail)
  go_wp2_with fail
  refine (HC.out.2 _).mono ?_
  rintro e w5 ⟨rfl, c5, k5⟩
  obtain ⟨hw, hy, n1, n2, n3, l1, hx⟩ := HX.out
  obtain ⟨q2, y2, zx, zb3, zb4, lw, hlt, kX⟩ := HZ.out
  have hw5 : WoOn w5 pw pm (PV pc) := (k5.block pw ⟨hy, n3⟩).trans hw
  have y5 : w5.heap[W.heap.size + 1]? = some (.cells #[.int .i64 0, .int .i64 0, .slice none 0 0] 35) := (k5.block _ ⟨(hx _ zb4).1, (hx _ zb4).2.2.2.2⟩).trans y2
  have P5 : ScC w pw limit S' root hh is' Z w5 := ⟨ps, pm, px, pc, Y, c5, hw5, hy, n1, n2, n3, l1, hx⟩
  have K5 : Keep X W w5 := kX.trans ((Keep.drewN X _ _).trans (k5.mono fun k hk => ⟨(hx k (zx k hk)).1, (hx k (zx k hk)).2.2.2.2⟩))
  have H5 := Lib.hid (And.intro P5 (And.intro K5 (And.intro y5 (And.intro zx (And.intro zb4 (And.intro lw hlt))))))
  clear hw hy n1 n2 n3 l1 hx q2 y2 zx zb3 zb4 lw hlt kX hw5 y5 P5 K5 c5 k5 HX HZ c0 c1 c2 c3 g0 g1 g2 g3 g4
  go_wp2_with fail

  refine (one_err w5 p1 p2 er h0).mono ?_
  rintro e w6 ⟨rfl, b6⟩
  obtain ⟨P5, K5, y5, zx, zb4, lw, hlt⟩ := H5.out
  obtain ⟨Z6, zx6, zn6, P6⟩ := HC.out.1.grow P5 b6
  have y6 := (b6.block _ (Array.getElem?_eq_some_iff.1 y5).1).trans y5
  have K6 := K5.trans (Keep.of_below b6 fun k hk => HC.out.1.lt P5 k (zx k hk))
  have ans := HC.out.1.answer P6 (zx6 _ zb4) (by omega) y6 K6 (fun k hk => by have := hlt k hk; omega) (.int .i64 er) (.int .i64 0) (.slice none 0 0)
  have f0 : (w6).frozen? ⟨(W.heap.size + 1), 0, none⟩ = false := frozen_of_block y6
  have f1 : (w6).frozen? ⟨(W.heap.size + 1), 1, none⟩ = false := frozen_of_block y6
  have f2 : (w6).frozen? ⟨(W.heap.size + 1), 2, none⟩ = false := frozen_of_block y6
  have c0 : (w6).cell? ⟨(W.heap.size + 1), 0, none⟩ = some (.int .i64 0) := by rw [cell_of_block y6]; rfl
  have c1 : (w6).cell? ⟨(W.heap.size + 1), 1, none⟩ = some (.int .i64 0) := by rw [cell_of_block y6]; rfl
  have c2 : (w6).cell? ⟨(W.heap.size + 1), 2, none⟩ = some (.slice none 0 0) := by rw [cell_of_block y6]; rfl
  have HB := Lib.hid (And.intro ans fun k hk => zx6 k (zx k hk))
  clear ans K6 y6 P6 zx6 zn6 P5 K5 y5 zx zb4 lw hlt b6 H5 HC
  go_wp2_with fail
  obtain ⟨⟨P7, K7, q7⟩, zx⟩ := HB.out
  generalize (((w6.setCell ⟨(W.heap.size + 1), 0, none⟩ (.int .i64 er)).setCell ⟨(W.heap.size + 1), 1, none⟩ (.int .i64 0)).setCell ⟨(W.heap.size + 1), 2, none⟩ (.slice none 0 0)) = w7 at *
  have e0 : (w7).cell? ⟨(W.heap.size + 1), 0, none⟩ = some (.int .i64 er) := by rw [cell_of_block q7]; rfl
  have e1 : (w7).cell? ⟨(W.heap.size + 1), 1, none⟩ = some (.int .i64 0) := by rw [cell_of_block q7]; rfl
  have e2 : (w7).cell? ⟨(W.heap.size + 1), 2, none⟩ = some (.slice none 0 0) := by rw [cell_of_block q7]; rfl
  exact bodyPost_ret (v := .agg #[.int .i64 er, .int .i64 0, .slice none 0 0]) (by simp [results, Tryz.f44, go_sem, e0, e1, e2]) rfl ⟨_, Z6, rfl, zx, PRowX.nil _ _, P7, K7⟩

set_option maxRecDepth 100000 in
set_option maxHeartbeats 3200000 in
theorem sc_arg {w W : World} {pw limit root hh is : Nat} {S : St} {X : Nat → Prop} (ht : Tab64 w) (hP : ScC w pw limit S root hh is X W) (a b : List UInt8) :
    Calls Tryz.prog 44 #[PV pw, .agg #[.int .i64 16, .int .i64 4, SV a, SV b]] W fun e w' => StepQ (ScC w pw limit S root hh is) X W ⟨2, 0, []⟩ e w' := by
  have cP := scc_cl ht pw limit S root hh is
  have B1 := (Below.refl W.heap.size W).alloc (Nat.le_refl _) (.cells #[.int .i64 16, .int .i64 4, SV a, SV b] 23)
  have z1 : (W.alloc (.cells #[.int .i64 16, .int .i64 4, SV a, SV b] 23)).heap.size = W.heap.size + 1 := by simp
  have A2 := (Below.refl _ (W.alloc (.cells #[.int .i64 16, .int .i64 4, SV a, SV b] 23))).alloc (Nat.le_refl _) (.cells #[.int .i64 0, .int .i64 0, .slice none 0 0] 35)
  have B2 := B1.alloc B1.size (.cells #[.int .i64 0, .int .i64 0, .slice none 0 0] 35)
  have q1 := heap_alloc_new W (.cells #[.int .i64 16, .int .i64 4, SV a, SV b] 23)
  have q2 := (A2.block W.heap.size (by omega)).trans q1
  have y2 := heap_alloc_new (W.alloc (.cells #[.int .i64 16, .int .i64 4, SV a, SV b] 23)) (.cells #[.int .i64 0, .int .i64 0, .slice none 0 0] 35)
  rw [z1] at y2
  have z2 : ((W.alloc (.cells #[.int .i64 16, .int .i64 4, SV a, SV b] 23)).alloc (.cells #[.int .i64 0, .int .i64 0, .slice none 0 0] 35)).heap.size = W.heap.size + 2 := by simp
  obtain ⟨Z, zx, zn, hP2⟩ := cP.grow hP B2
  have zb3 : Z W.heap.size := zn _ (Nat.le_refl _) (by omega)
  have zb4 : Z (W.heap.size + 1) := zn _ (Nat.le_succ _) (by omega)
  have lw := (cP.bl hP).size
  have hlt := cP.lt hP
  have kX : Keep X W ((W.alloc (.cells #[.int .i64 16, .int .i64 4, SV a, SV b] 23)).alloc (.cells #[.int .i64 0, .int .i64 0, .slice none 0 0] 35)) := Keep.of_below B2 hlt
  obtain ⟨ps, pm, px, pc, Y, h, hw, -⟩ := hP2.ex
  unfold WoOn at hw
  have c0 : (((W.alloc (.cells #[.int .i64 16, .int .i64 4, SV a, SV b] 23)).alloc (.cells #[.int .i64 0, .int .i64 0, .slice none 0 0] 35))).cell? ⟨W.heap.size, 0, none⟩ = some (.int .i64 16) := by rw [cell_of_block q2]; rfl
  have c1 : (((W.alloc (.cells #[.int .i64 16, .int .i64 4, SV a, SV b] 23)).alloc (.cells #[.int .i64 0, .int .i64 0, .slice none 0 0] 35))).cell? ⟨W.heap.size, 1, none⟩ = some (.int .i64 4) := by rw [cell_of_block q2]; rfl
  have c2 : (((W.alloc (.cells #[.int .i64 16, .int .i64 4, SV a, SV b] 23)).alloc (.cells #[.int .i64 0, .int .i64 0, .slice none 0 0] 35))).cell? ⟨W.heap.size, 2, none⟩ = some (SV a) := by rw [cell_of_block q2]; rfl
  have c3 : (((W.alloc (.cells #[.int .i64 16, .int .i64 4, SV a, SV b] 23)).alloc (.cells #[.int .i64 0, .int .i64 0, .slice none 0 0] 35))).cell? ⟨W.heap.size, 3, none⟩ = some (SV b) := by rw [cell_of_block q2]; rfl
  have d0 : (((W.alloc (.cells #[.int .i64 16, .int .i64 4, SV a, SV b] 23)).alloc (.cells #[.int .i64 0, .int .i64 0, .slice none 0 0] 35))).cell? ⟨(W.heap.size + 1), 0, none⟩ = some (.int .i64 0) := by rw [cell_of_block y2]; rfl
  have d1 : (((W.alloc (.cells #[.int .i64 16, .int .i64 4, SV a, SV b] 23)).alloc (.cells #[.int .i64 0, .int .i64 0, .slice none 0 0] 35))).cell? ⟨(W.heap.size + 1), 1, none⟩ = some (.int .i64 0) := by rw [cell_of_block y2]; rfl
  have d2 : (((W.alloc (.cells #[.int .i64 16, .int .i64 4, SV a, SV b] 23)).alloc (.cells #[.int .i64 0, .int .i64 0, .slice none 0 0] 35))).cell? ⟨(W.heap.size + 1), 2, none⟩ = some (.slice none 0 0) := by rw [cell_of_block y2]; rfl
  have g0 : (((W.alloc (.cells #[.int .i64 16, .int .i64 4, SV a, SV b] 23)).alloc (.cells #[.int .i64 0, .int .i64 0, .slice none 0 0] 35))).cell? ⟨pw, 0, none⟩ = some (PV pm) := by rw [cell_of_block hw]; rfl
  have g1 : (((W.alloc (.cells #[.int .i64 16, .int .i64 4, SV a, SV b] 23)).alloc (.cells #[.int .i64 0, .int .i64 0, .slice none 0 0] 35))).cell? ⟨pw, 1, none⟩ = some (PV pc) := by rw [cell_of_block hw]; rfl
  have g2 : (((W.alloc (.cells #[.int .i64 16, .int .i64 4, SV a, SV b] 23)).alloc (.cells #[.int .i64 0, .int .i64 0, .slice none 0 0] 35))).cell? ⟨pw, 2, none⟩ = some (.pointer none) := by rw [cell_of_block hw]; rfl
  have g3 : (((W.alloc (.cells #[.int .i64 16, .int .i64 4, SV a, SV b] 23)).alloc (.cells #[.int .i64 0, .int .i64 0, .slice none 0 0] 35))).cell? ⟨pw, 3, none⟩ = some (.pointer none) := by rw [cell_of_block hw]; rfl
  have g4 : (((W.alloc (.cells #[.int .i64 16, .int .i64 4, SV a, SV b] 23)).alloc (.cells #[.int .i64 0, .int .i64 0, .slice none 0 0] 35))).cell? ⟨pw, 4, none⟩ = some (.pointer none) := by rw [cell_of_block hw]; rfl
  have B3 := B1.alloc B1.size (.cells #[.int .i64 2, .int .i64 0, .slice none 0 0] 35)
  have q3 := heap_alloc_new (W.alloc (.cells #[.int .i64 16, .int .i64 4, SV a, SV b] 23)) (.cells #[.int .i64 2, .int .i64 0, .slice none 0 0] 35)
  rw [z1] at q3
  have hfin := cP.fin hP B3 2
  have e0 : (((W.alloc (.cells #[.int .i64 16, .int .i64 4, SV a, SV b] 23)).alloc (.cells #[.int .i64 2, .int .i64 0, .slice none 0 0] 35))).cell? ⟨(W.heap.size + 1), 0, none⟩ = some (.int .i64 2) := by rw [cell_of_block q3]; rfl
  have e1 : (((W.alloc (.cells #[.int .i64 16, .int .i64 4, SV a, SV b] 23)).alloc (.cells #[.int .i64 2, .int .i64 0, .slice none 0 0] 35))).cell? ⟨(W.heap.size + 1), 1, none⟩ = some (.int .i64 0) := by rw [cell_of_block q3]; rfl
  have e2 : (((W.alloc (.cells #[.int .i64 16, .int .i64 4, SV a, SV b] 23)).alloc (.cells #[.int .i64 2, .int .i64 0, .slice none 0 0] 35))).cell? ⟨(W.heap.size + 1), 2, none⟩ = some (.slice none 0 0) := by rw [cell_of_block q3]; rfl
  have HB := Lib.hid hfin
  clear hfin q3 B3 h hw kX hlt lw zb4 zb3 zn zx hP2 z2 y2 q2 q1 B2 A2 z1 B1 cP hP ht
  go_enter Tryz.func44, Tryz.ntmps44
  go_wp2_with fail
  exact bodyPost_ret (v := .agg #[.int .i64 2, .int .i64 0, .slice none 0 0]) (by simp [results, Tryz.f44, go_sem, e0, e1, e2]) rfl HB.out

set_option maxRecDepth 100000 in
set_option maxHeartbeats 3200000 in
theorem sc_stale {w W : World} {pw limit root hh is : Nat} {S : St} {X : Nat → Prop} (ht : Tab64 w) (hP : ScC w pw limit S root hh is X W) (a b : List UInt8) :
    Calls Tryz.prog 44 #[PV pw, .agg #[.int .i64 16, .int .i64 1, SV a, SV b]] W fun e w' => StepQ (ScC w pw limit S root hh is) X W ⟨7, 0, []⟩ e w' := by
  have cP := scc_cl ht pw limit S root hh is
  have B1 := (Below.refl W.heap.size W).alloc (Nat.le_refl _) (.cells #[.int .i64 16, .int .i64 1, SV a, SV b] 23)
  have z1 : (W.alloc (.cells #[.int .i64 16, .int .i64 1, SV a, SV b] 23)).heap.size = W.heap.size + 1 := by simp
  have A2 := (Below.refl _ (W.alloc (.cells #[.int .i64 16, .int .i64 1, SV a, SV b] 23))).alloc (Nat.le_refl _) (.cells #[.int .i64 0, .int .i64 0, .slice none 0 0] 35)
  have B2 := B1.alloc B1.size (.cells #[.int .i64 0, .int .i64 0, .slice none 0 0] 35)
  have q1 := heap_alloc_new W (.cells #[.int .i64 16, .int .i64 1, SV a, SV b] 23)
  have q2 := (A2.block W.heap.size (by omega)).trans q1
  have y2 := heap_alloc_new (W.alloc (.cells #[.int .i64 16, .int .i64 1, SV a, SV b] 23)) (.cells #[.int .i64 0, .int .i64 0, .slice none 0 0] 35)
  rw [z1] at y2
  have z2 : ((W.alloc (.cells #[.int .i64 16, .int .i64 1, SV a, SV b] 23)).alloc (.cells #[.int .i64 0, .int .i64 0, .slice none 0 0] 35)).heap.size = W.heap.size + 2 := by simp
  obtain ⟨Z, zx, zn, hP2⟩ := cP.grow hP B2
  have zb3 : Z W.heap.size := zn _ (Nat.le_refl _) (by omega)
  have zb4 : Z (W.heap.size + 1) := zn _ (Nat.le_succ _) (by omega)
  have lw := (cP.bl hP).size
  have hlt := cP.lt hP
  have kX : Keep X W ((W.alloc (.cells #[.int .i64 16, .int .i64 1, SV a, SV b] 23)).alloc (.cells #[.int .i64 0, .int .i64 0, .slice none 0 0] 35)) := Keep.of_below B2 hlt
  obtain ⟨ps, pm, px, pc, Y, h, hw, -⟩ := hP2.ex
  unfold WoOn at hw
  have c0 : (((W.alloc (.cells #[.int .i64 16, .int .i64 1, SV a, SV b] 23)).alloc (.cells #[.int .i64 0, .int .i64 0, .slice none 0 0] 35))).cell? ⟨W.heap.size, 0, none⟩ = some (.int .i64 16) := by rw [cell_of_block q2]; rfl
  have c1 : (((W.alloc (.cells #[.int .i64 16, .int .i64 1, SV a, SV b] 23)).alloc (.cells #[.int .i64 0, .int .i64 0, .slice none 0 0] 35))).cell? ⟨W.heap.size, 1, none⟩ = some (.int .i64 1) := by rw [cell_of_block q2]; rfl
  have c2 : (((W.alloc (.cells #[.int .i64 16, .int .i64 1, SV a, SV b] 23)).alloc (.cells #[.int .i64 0, .int .i64 0, .slice none 0 0] 35))).cell? ⟨W.heap.size, 2, none⟩ = some (SV a) := by rw [cell_of_block q2]; rfl
  have c3 : (((W.alloc (.cells #[.int .i64 16, .int .i64 1, SV a, SV b] 23)).alloc (.cells #[.int .i64 0, .int .i64 0, .slice none 0 0] 35))).cell? ⟨W.heap.size, 3, none⟩ = some (SV b) := by rw [cell_of_block q2]; rfl
  have d0 : (((W.alloc (.cells #[.int .i64 16, .int .i64 1, SV a, SV b] 23)).alloc (.cells #[.int .i64 0, .int .i64 0, .slice none 0 0] 35))).cell? ⟨(W.heap.size + 1), 0, none⟩ = some (.int .i64 0) := by rw [cell_of_block y2]; rfl
  have d1 : (((W.alloc (.cells #[.int .i64 16, .int .i64 1, SV a, SV b] 23)).alloc (.cells #[.int .i64 0, .int .i64 0, .slice none 0 0] 35))).cell? ⟨(W.heap.size + 1), 1, none⟩ = some (.int .i64 0) := by rw [cell_of_block y2]; rfl
  have d2 : (((W.alloc (.cells #[.int .i64 16, .int .i64 1, SV a, SV b] 23)).alloc (.cells #[.int .i64 0, .int .i64 0, .slice none 0 0] 35))).cell? ⟨(W.heap.size + 1), 2, none⟩ = some (.slice none 0 0) := by rw [cell_of_block y2]; rfl
  have g0 : (((W.alloc (.cells #[.int .i64 16, .int .i64 1, SV a, SV b] 23)).alloc (.cells #[.int .i64 0, .int .i64 0, .slice none 0 0] 35))).cell? ⟨pw, 0, none⟩ = some (PV pm) := by rw [cell_of_block hw]; rfl
  have g1 : (((W.alloc (.cells #[.int .i64 16, .int .i64 1, SV a, SV b] 23)).alloc (.cells #[.int .i64 0, .int .i64 0, .slice none 0 0] 35))).cell? ⟨pw, 1, none⟩ = some (PV pc) := by rw [cell_of_block hw]; rfl
  have g2 : (((W.alloc (.cells #[.int .i64 16, .int .i64 1, SV a, SV b] 23)).alloc (.cells #[.int .i64 0, .int .i64 0, .slice none 0 0] 35))).cell? ⟨pw, 2, none⟩ = some (.pointer none) := by rw [cell_of_block hw]; rfl
  have g3 : (((W.alloc (.cells #[.int .i64 16, .int .i64 1, SV a, SV b] 23)).alloc (.cells #[.int .i64 0, .int .i64 0, .slice none 0 0] 35))).cell? ⟨pw, 3, none⟩ = some (.pointer none) := by rw [cell_of_block hw]; rfl
  have g4 : (((W.alloc (.cells #[.int .i64 16, .int .i64 1, SV a, SV b] 23)).alloc (.cells #[.int .i64 0, .int .i64 0, .slice none 0 0] 35))).cell? ⟨pw, 4, none⟩ = some (.pointer none) := by rw [cell_of_block hw]; rfl
  have f0 : (((W.alloc (.cells #[.int .i64 16, .int .i64 1, SV a, SV b] 23)).alloc (.cells #[.int .i64 0, .int .i64 0, .slice none 0 0] 35))).frozen? ⟨(W.heap.size + 1), 0, none⟩ = false := frozen_of_block y2
  have f1 : (((W.alloc (.cells #[.int .i64 16, .int .i64 1, SV a, SV b] 23)).alloc (.cells #[.int .i64 0, .int .i64 0, .slice none 0 0] 35))).frozen? ⟨(W.heap.size + 1), 1, none⟩ = false := frozen_of_block y2
  have f2 : (((W.alloc (.cells #[.int .i64 16, .int .i64 1, SV a, SV b] 23)).alloc (.cells #[.int .i64 0, .int .i64 0, .slice none 0 0] 35))).frozen? ⟨(W.heap.size + 1), 2, none⟩ = false := frozen_of_block y2
  have ans := fun q => cP.answer (V := ((W.alloc (.cells #[.int .i64 16, .int .i64 1, SV a, SV b] 23)).alloc (.cells #[.int .i64 0, .int .i64 0, .slice none 0 0] 35)).drewN q) (cP.write hP2 zb4 (by omega) y2 ⟨by decide, by decide⟩ (Nat.le_refl _) (fun _ _ _ => rfl) ⟨rfl, rfl, rfl⟩) zb4 (by omega) y2 (kX.trans (Keep.drewN X _ q)) (fun k hk => by have := hlt k hk; omega) (.int .i64 7) (.int .i64 0) (.slice none 0 0)
  have HB := Lib.hid (And.intro ans zx)
  clear ans h hw kX hlt lw zb4 zb3 zn zx hP2 z2 y2 q2 q1 B2 A2 z1 B1 cP hP ht
  go_enter Tryz.func44, Tryz.ntmps44
  go_wp2_with fail
  go_quiet (fail)
  go_wp2_with fail
  obtain ⟨ans, zx⟩ := HB.out
  obtain ⟨P7, K7, q7⟩ := ans nq
  generalize ((((((W.alloc (.cells #[.int .i64 16, .int .i64 1, SV a, SV b] 23)).alloc (.cells #[.int .i64 0, .int .i64 0, .slice none 0 0] 35)).drewN nq).setCell ⟨(W.heap.size + 1), 0, none⟩ (.int .i64 7)).setCell ⟨(W.heap.size + 1), 1, none⟩ (.int .i64 0)).setCell ⟨(W.heap.size + 1), 2, none⟩ (.slice none 0 0)) = w7 at *
  have e0 : (w7).cell? ⟨(W.heap.size + 1), 0, none⟩ = some (.int .i64 7) := by rw [cell_of_block q7]; rfl
  have e1 : (w7).cell? ⟨(W.heap.size + 1), 1, none⟩ = some (.int .i64 0) := by rw [cell_of_block q7]; rfl
  have e2 : (w7).cell? ⟨(W.heap.size + 1), 2, none⟩ = some (.slice none 0 0) := by rw [cell_of_block q7]; rfl
  exact bodyPost_ret (v := .agg #[.int .i64 7, .int .i64 0, .slice none 0 0]) (by simp [results, Tryz.f44, go_sem, e0, e1, e2]) rfl ⟨_, Z, rfl, zx, PRowX.nil _ _, P7, K7⟩

end Go.Proofs.YtoaabbnieakidaaGreatDoorR

namespace Go.Proofs.YtoaabbnieakidaaGreatDoorR
open Go.RowKit Go.BigFrame Go.Maps Go.WideMaps Lf

def sk1 : St := ⟨⟨64000, [(0, pg [513, 3, 4294967297, 2, 1, 6989586621679009792, 4294967298, 2, 1, 8646911284551352320]), (1, pg [1025, 1, 4294967299, 6, 4294967297, 4294967298, 0, 0, 1, 1])]⟩, ⟨1000, 9, [⟨1, 1, 2⟩, ⟨1, 1, 6⟩, ⟨1, 1, 66⟩]⟩⟩
def sk2a : St := ⟨⟨64000, [(0, pg [513, 15, 4294967297, 2, 1, 6989586621679009792, 4294967298, 2, 1, 8646911284551352320, 4294967300, 2, 1, 6989586621679009792, 4294967301, 2, 1, 8718968878589280256]), (1, pg [1025, 2, 4294967299, 6, 4294967297, 4294967298, 0, 0, 1, 1, 0, 4294967302, 6, 4294967300, 4294967301, 0, 0, 1, 1])]⟩, ⟨1000, 9, [⟨1, 1, 2⟩, ⟨1, 1, 6⟩, ⟨0, 1, 66⟩, ⟨1, 1, 10⟩, ⟨1, 1, 14⟩, ⟨1, 1, 75⟩]⟩⟩
def sk2 : St := ⟨⟨64000, [(0, pg [513, 12, 4294967297, 2, 1, 6989586621679009792, 4294967298, 2, 1, 8646911284551352320, 4294967300, 2, 1, 6989586621679009792, 4294967301, 2, 1, 8718968878589280256]), (1, pg [1025, 2, 4294967299, 6, 4294967297, 4294967298, 0, 0, 1, 1, 0, 4294967302, 6, 4294967300, 4294967301, 0, 0, 1, 1])]⟩, ⟨1000, 9, [⟨0, 1, 2⟩, ⟨0, 1, 6⟩, ⟨0, 1, 66⟩, ⟨1, 1, 10⟩, ⟨1, 1, 14⟩, ⟨1, 1, 75⟩]⟩⟩
def sk3 : St := ⟨⟨64000, [(0, pg [513, 12, 4294967297, 2, 1, 6989586621679009792, 4294967298, 2, 1, 8646911284551352320, 4294967300, 2, 1, 6989586621679009792, 4294967301, 2, 1, 8718968878589280256]), (1, pg [1025, 2, 4294967299, 6, 4294967297, 4294967298, 0, 0, 1, 1, 0, 4294967302, 6, 4294967300, 4294967301, 0, 0, 1, 1]), (2, pg [769, 1, 8589934593, 3])]⟩, ⟨1000, 9, [⟨1, 2, 130⟩, ⟨0, 1, 6⟩, ⟨0, 1, 66⟩, ⟨1, 1, 10⟩, ⟨1, 1, 14⟩, ⟨1, 1, 75⟩]⟩⟩
def sk4 : St := ⟨⟨64000, [(0, pg [513, 12, 4294967297, 2, 1, 6989586621679009792, 4294967298, 2, 1, 8646911284551352320, 4294967300, 2, 1, 6989586621679009792, 4294967301, 2, 1, 8718968878589280256]), (1, pg [1025, 2, 4294967299, 6, 4294967297, 4294967298, 0, 0, 1, 1, 0, 4294967302, 6, 4294967300, 4294967301, 0, 0, 1, 1]), (2, pg [769, 1, 8589934593, 3, 1, 6989586621679009792])]⟩, ⟨1000, 9, [⟨1, 2, 130⟩, ⟨0, 1, 6⟩, ⟨0, 1, 66⟩, ⟨1, 1, 10⟩, ⟨1, 1, 14⟩, ⟨1, 1, 75⟩]⟩⟩
def sk5 : St := ⟨⟨64000, [(0, pg [513, 12, 4294967297, 2, 1, 6989586621679009792, 4294967298, 2, 1, 8646911284551352320, 4294967300, 2, 1, 6989586621679009792, 4294967301, 2, 1, 8718968878589280256]), (1, pg [1025, 2, 4294967299, 6, 4294967297, 4294967298, 0, 0, 1, 1, 0, 4294967302, 6, 4294967300, 4294967301, 0, 0, 1, 1]), (2, pg [769, 1, 8589934593, 3])]⟩, ⟨1000, 9, [⟨1, 2, 130⟩, ⟨0, 1, 6⟩, ⟨0, 1, 66⟩, ⟨1, 1, 10⟩, ⟨1, 1, 14⟩, ⟨1, 1, 75⟩]⟩⟩
theorem sk_ok1 : PutOk sk0 [97] [120] := putB_ok (by decide +kernel)
theorem sk_run1 : treePutM avlOkM sk0 0 [97] [120] = some (4294967299, sk1) := runB_ok (by decide +kernel)
theorem sk_ok2 : PutOk sk1 [97] [121] := putB_ok (by decide +kernel)
def repB (jn : Jn) (S : St) (root : Nat) (a b : List UInt8) (x : Nat × Nat × Nat) (T : St) : Bool := match treeRepM jn S root a b with
  | some (y, U) => y == x && eqS U T
  | none => false
theorem repB_ok {jn : Jn} {S T : St} {root : Nat} {a b : List UInt8} {x : Nat × Nat × Nat} (h : repB jn S root a b x T = true) : treeRepM jn S root a b = some (x, T) := by
  unfold repB at h
  split at h
  · rename_i y U e
    simp only [Bool.and_eq_true, beq_iff_eq] at h
    rw [e, h.1, eqS_ok h.2]
  · cases h
theorem sk_run2 : treeRepM avlOkM sk1 4294967299 [97] [121] = some ((4294967302, 4294967297, 4294967298), sk2a) := repB_ok (by decide +kernel)
theorem sk_inv2a : Inv sk2a := invB_ok (by decide +kernel)
theorem sk_inv2b : Inv (sk2a.drop 4294967297).2 := invB_ok (by decide +kernel)
theorem sk_inv2 : Inv sk2 := invB_ok (by decide +kernel)
theorem sk_blob2 : getBlob sk2a 4294967298 = ([120], 0) := by decide +kernel
theorem sk_drop2 : ((sk2a.drop 4294967297).2.drop 4294967298).2 = sk2 := eqS_ok (by decide +kernel)
theorem sk_mk3 : MkOk sk2 (many 9) := mkB_ok (by decide +kernel)
theorem sk_make3 : sk2.make (many 9) = ((8589934593, 0), sk3) := by
  have h : (sk2.make (many 9)).1 = (8589934593, 0) := by decide +kernel
  rw [← h, ← eqS_ok (S := (sk2.make (many 9)).2) (T := sk3) (by decide +kernel)]
theorem sk_at3 : treeAtM sk3 4294967302 0 = some ([97], [121]) := by decide +kernel
theorem sk_put4 : curPut sk3 8589934593 (wordsOf [97]) (many 9) = sk4 := eqS_ok (by decide +kernel)
theorem sk_get4 : (sk4.get 8589934593 0).1 = 1 := by decide +kernel
theorem sk_words4 : (List.range (many 1)).map (fun k => (sk4.get 8589934593 k).1) = wordsOf [97] := by decide +kernel
theorem sk_rank4 : rankM sk4 4294967302 [97] = some 0 := by decide +kernel
def fndB (S : St) (k : List UInt8) (root : Nat) (v : List UInt8) : Bool := match downM S k (Lf.limit S) root 0 with
  | some F => decide (F.1 ≠ 0) && decide (F.1 < 18446744073709551616) && decide (textM S (getNode S F.1).1.val = some v)
  | none => false
theorem fndB_ok {S : St} {k v : List UInt8} {root : Nat} (h : fndB S k root v = true) : ∃ F, downM S k (Lf.limit S) root 0 = some F ∧ F.1 ≠ 0 ∧ F.1 < 18446744073709551616 ∧ textM S (getNode S F.1).1.val = some v := by
  unfold fndB at h
  split at h
  · rename_i F e
    simp only [Bool.and_eq_true, decide_eq_true_eq] at h
    exact ⟨F, e, h.1.1, h.1.2, h.2⟩
  · cases h
theorem sk_found4 : fndB sk4 [97] 4294967302 [121] = true := by decide +kernel
theorem sk_at4 : walkAtM sk4 4294967302 1 = some (0, 2) := by decide +kernel
theorem sk_put5 : curPut sk4 8589934593 (wordsOf []) (many 9) = sk5 := eqS_ok (by decide +kernel)

/-- where a script's law stands behind so many acts -/
def SkAt (w : World) (pw : Nat) : Nat → (Nat → Prop) → World → Prop
  | 0 => ScM w pw 9 sk0 0
  | 1 => ScM w pw 9 sk1 4294967299
  | 2 => ScM w pw 9 sk2 4294967302
  | 3 => ScC w pw 9 sk3 4294967302 8589934593 0
  | 4 => ScC w pw 9 sk4 4294967302 8589934593 1
  | _ => ScC w pw 9 sk5 4294967302 8589934593 2
theorem skAt_cl {w : World} (ht : Tab64 w) (pw : Nat) : ∀ k, Cl w (SkAt w pw k)
  | 0 => scm_cl ht pw 9 _ _
  | 1 => scm_cl ht pw 9 _ _
  | 2 => scm_cl ht pw 9 _ _
  | 3 => scc_cl ht pw 9 _ _ _ _
  | 4 => scc_cl ht pw 9 _ _ _ _
  | _ + 5 => scc_cl ht pw 9 _ _ _ _
def skActs : List Ac := [⟨1, 0, [97], [120]⟩, ⟨1, 0, [97], [121]⟩, ⟨14, 0, [], []⟩, ⟨16, 0, [], []⟩, ⟨16, 0, [], []⟩, ⟨16, 4, [], []⟩, ⟨16, 1, [], []⟩]
def skAns : List An := [⟨0, 0, []⟩, ⟨0, 1, [([97], [120])]⟩, ⟨0, 0, []⟩, ⟨0, 0, [([97], [121])]⟩, ⟨5, 0, []⟩, ⟨2, 0, []⟩, ⟨7, 0, []⟩]

set_option maxRecDepth 100000 in
set_option maxHeartbeats 400000 in
theorem wo_none {V : World} {pw pm : Nat} {c : Value} (hw : WoOn V pw pm c) :
    Calls Tryz.prog 14 #[PV pw] V fun e w' => e = .returned (.bool false) ∧ V = w' := by
  unfold WoOn at hw
  have c0 : (V).cell? ⟨pw, 0, none⟩ = some (PV pm) := by rw [cell_of_block hw]; rfl
  have c1 : (V).cell? ⟨pw, 1, none⟩ = some (c) := by rw [cell_of_block hw]; rfl
  have c2 : (V).cell? ⟨pw, 2, none⟩ = some (.pointer none) := by rw [cell_of_block hw]; rfl
  have c3 : (V).cell? ⟨pw, 3, none⟩ = some (.pointer none) := by rw [cell_of_block hw]; rfl
  have c4 : (V).cell? ⟨pw, 4, none⟩ = some (.pointer none) := by rw [cell_of_block hw]; rfl
  clear hw
  go_enter Tryz.func14, Tryz.ntmps14
  go_wp2_with fail
  go_ret
  exact ⟨rfl, rfl⟩
theorem scm_none {w : World} {pw limit : Nat} {S : St} {root : Nat} (Z : Nat → Prop) (V : World) (h : ScM w pw limit S root Z V) : Calls Tryz.prog 14 #[PV pw] V fun e w' => e = .returned (.bool false) ∧ V = w' := by
  obtain ⟨_, _, _, _, _, hw, -⟩ := h.ex
  exact wo_none hw
theorem scc_none {w : World} {pw limit : Nat} {S : St} {root hh is : Nat} (Z : Nat → Prop) (V : World) (h : ScC w pw limit S root hh is Z V) : Calls Tryz.prog 14 #[PV pw] V fun e w' => e = .returned (.bool false) ∧ V = w' := by
  obtain ⟨_, _, _, _, _, _, hw, -⟩ := h.ex
  exact wo_none hw
theorem has1 : Maps.has deedD (.int .i64 1) = true := by decide +kernel
theorem has14 : Maps.has deedD (.int .i64 14) = true := by decide +kernel
theorem has16 : Maps.has deedD (.int .i64 16) = true := by decide +kernel
theorem at1 : deedD.atKey (.int .i64 1) (.lit (.bool false)) = .lit (.int .i64 18) := by rfl
theorem at14 : deedD.atKey (.int .i64 14) (.lit (.bool false)) = .lit (.int .i64 43) := by rfl
theorem at16 : deedD.atKey (.int .i64 16) (.lit (.bool false)) = .lit (.int .i64 44) := by rfl

theorem sk_step0 {w W : World} {pw : Nat} {X : Nat → Prop} (ht : Tab64 w) (hP : SkAt w pw 0 X W) : Calls Tryz.prog 6 #[PV pw, .agg #[.int .i64 1, .int .i64 0, SV [97], SV [120]]] W fun e w' => StepQ (SkAt w pw 1) X W ⟨0, 0, []⟩ e w' :=
  sc_do (scm_cl ht pw 9 sk0 0) (scm_cl ht pw 9 sk1 4294967299) scm_none hP 1 0 [97] [120] 18 (by decide) has1 at1 (fun args w => by go_simp) _ fun Z V hV => sc_put ht hV 1 0 [97] [120] (by decide) (by decide) (by decide) sk_ok1 sk_run1
theorem sk_step1 {w W : World} {pw : Nat} {X : Nat → Prop} (ht : Tab64 w) (hP : SkAt w pw 1 X W) : Calls Tryz.prog 6 #[PV pw, .agg #[.int .i64 1, .int .i64 0, SV [97], SV [121]]] W fun e w' => StepQ (SkAt w pw 2) X W ⟨0, 1, [([97], [120])]⟩ e w' :=
  sc_do (scm_cl ht pw 9 sk1 4294967299) (scm_cl ht pw 9 sk2 4294967302) scm_none hP 1 0 [97] [121] 18 (by decide) has1 at1 (fun args w => by go_simp) _ fun Z V hV => sc_put_was ht hV 1 0 [97] [121] (by decide) (by decide) (by decide) sk_ok2 sk_run2 (by decide) (by decide) sk_inv2a sk_blob2 sk_inv2b sk_drop2 sk_inv2
theorem sk_step2 {w W : World} {pw : Nat} {X : Nat → Prop} (ht : Tab64 w) (hP : SkAt w pw 2 X W) : Calls Tryz.prog 6 #[PV pw, .agg #[.int .i64 14, .int .i64 0, SV [], SV []]] W fun e w' => StepQ (SkAt w pw 3) X W ⟨0, 0, []⟩ e w' :=
  sc_do (scm_cl ht pw 9 sk2 4294967302) (scc_cl ht pw 9 sk3 4294967302 8589934593 0) scm_none hP 14 0 [] [] 43 (by decide) has14 at14 (fun args w => by go_simp) _ fun Z V hV => sc_open ht hV 14 [] [] (by decide) sk_mk3 sk_make3
theorem sk_step3 {w W : World} {pw : Nat} {X : Nat → Prop} (ht : Tab64 w) (hP : SkAt w pw 3 X W) : Calls Tryz.prog 6 #[PV pw, .agg #[.int .i64 16, .int .i64 0, SV [], SV []]] W fun e w' => StepQ (SkAt w pw 4) X W ⟨0, 0, [([97], [121])]⟩ e w' :=
  sc_do (scc_cl ht pw 9 sk3 4294967302 8589934593 0) (scc_cl ht pw 9 sk4 4294967302 8589934593 1) scc_none hP 16 0 [] [] 44 (by decide) has16 at16 (fun args w => by go_simp) _ fun Z V hV => sc_next_ok ht hV [] [] [97] [121] fun ps pm px pc Y U hU => cu_next_ahead hU (by decide) ([97], [121]) 0 fun W Z hW => by
    have := cu_pair_ok hW (by decide) (by decide) (by decide) 0 2 (by decide) ([97], [121]) sk_at3 (by decide)
    rwa [sk_put4] at this
theorem sk_step4 {w W : World} {pw : Nat} {X : Nat → Prop} (ht : Tab64 w) (hP : SkAt w pw 4 X W) : Calls Tryz.prog 6 #[PV pw, .agg #[.int .i64 16, .int .i64 0, SV [], SV []]] W fun e w' => StepQ (SkAt w pw 5) X W ⟨5, 0, []⟩ e w' := by
  obtain ⟨F, f1, f2, f3, f4⟩ := fndB_ok sk_found4
  exact sc_do (scc_cl ht pw 9 sk4 4294967302 8589934593 1) (scc_cl ht pw 9 sk5 4294967302 8589934593 2) scc_none hP 16 0 [] [] 44 (by decide) has16 at16 (fun args w => by go_simp) _ fun Z V hV => sc_next_err ht hV [] [] [] [] 5 (by decide) fun ps pm px pc Y U hU => cu_next_found hU (by decide) (by decide) (by decide) [97] (by decide) sk_get4 sk_words4 0 sk_rank4 [121] (fun W Z hW => map_get_some hW.md.m [97] [121] (tree_get_some hW.md.st hW.md.inv hW.md.t (by decide) [97] f1 f2 f3 f4)) ([], []) 5 fun W Z hW => by
    have := cu_pair_no hW (by decide) (by decide) (by decide) (by decide) 1 2 (by decide) sk_at4
    rwa [sk_put5] at this
theorem sk_step5 {w W : World} {pw : Nat} {X : Nat → Prop} (ht : Tab64 w) (hP : SkAt w pw 5 X W) : Calls Tryz.prog 6 #[PV pw, .agg #[.int .i64 16, .int .i64 4, SV [], SV []]] W fun e w' => StepQ (SkAt w pw 6) X W ⟨2, 0, []⟩ e w' :=
  sc_do (scc_cl ht pw 9 sk5 4294967302 8589934593 2) (scc_cl ht pw 9 sk5 4294967302 8589934593 2) scc_none hP 16 4 [] [] 44 (by decide) has16 at16 (fun args w => by go_simp) _ fun Z V hV => sc_arg ht hV [] []
theorem sk_step6 {w W : World} {pw : Nat} {X : Nat → Prop} (ht : Tab64 w) (hP : SkAt w pw 6 X W) : Calls Tryz.prog 6 #[PV pw, .agg #[.int .i64 16, .int .i64 1, SV [], SV []]] W fun e w' => StepQ (SkAt w pw 7) X W ⟨7, 0, []⟩ e w' :=
  sc_do (scc_cl ht pw 9 sk5 4294967302 8589934593 2) (scc_cl ht pw 9 sk5 4294967302 8589934593 2) scc_none hP 16 1 [] [] 44 (by decide) has16 at16 (fun args w => by go_simp) _ fun Z V hV => sc_stale ht hV [] []
theorem sk_steps {w : World} (ht : Tab64 w) (pw k : Nat) (hk : k < skActs.length) (X : Nat → Prop) (W : World) (hP : SkAt w pw k X W) : Calls Tryz.prog 6 #[PV pw, .agg #[.int .i64 skActs[k].d, .int .i64 skActs[k].n, SV skActs[k].a, SV skActs[k].b]] W fun e w' => StepQ (SkAt w pw (k + 1)) X W (skAns[k]'hk) e w' := by
  match k, hk with
  | 0, _ => exact sk_step0 ht hP
  | 1, _ => exact sk_step1 ht hP
  | 2, _ => exact sk_step2 ht hP
  | 3, _ => exact sk_step3 ht hP
  | 4, _ => exact sk_step4 ht hP
  | 5, _ => exact sk_step5 ht hP
  | 6, _ => exact sk_step6 ht hP
  | k + 7, h => exact absurd h (by simp [skActs])
end Go.Proofs.YtoaabbnieakidaaGreatDoorR

namespace Go.Proofs.YtoaabbnieakidaaGreatDoorR
open Go.RowKit Go.BigFrame Go.Maps Go.WideMaps Lf

set_option maxRecDepth 100000 in
set_option maxHeartbeats 800000 in
theorem one28 (w : World) :
    Calls Tryz.prog 10 #[.int .i64 1] w fun e w' => e = .returned (.agg #[.int .i64 1, .int .i64 2, .int .i64 9, .int .i64 64000, .int .i64 1000, .int .u32 9]) ∧ Below w.heap.size w w' := by
  have B1 := (Below.refl w.heap.size w).alloc (Nat.le_refl _) (.cells #[.int .i64 1, .int .i64 2, .int .i64 9, .int .i64 64000, .int .i64 1000, .int .u32 9] 46)
  have q1 := heap_alloc_new w (.cells #[.int .i64 1, .int .i64 2, .int .i64 9, .int .i64 64000, .int .i64 1000, .int .u32 9] 46)
  have e0 : ((w.alloc (.cells #[.int .i64 1, .int .i64 2, .int .i64 9, .int .i64 64000, .int .i64 1000, .int .u32 9] 46))).cell? ⟨w.heap.size, 0, none⟩ = some (.int .i64 1) := by rw [cell_of_block q1]; rfl
  have e1 : ((w.alloc (.cells #[.int .i64 1, .int .i64 2, .int .i64 9, .int .i64 64000, .int .i64 1000, .int .u32 9] 46))).cell? ⟨w.heap.size, 1, none⟩ = some (.int .i64 2) := by rw [cell_of_block q1]; rfl
  have e2 : ((w.alloc (.cells #[.int .i64 1, .int .i64 2, .int .i64 9, .int .i64 64000, .int .i64 1000, .int .u32 9] 46))).cell? ⟨w.heap.size, 2, none⟩ = some (.int .i64 9) := by rw [cell_of_block q1]; rfl
  have e3 : ((w.alloc (.cells #[.int .i64 1, .int .i64 2, .int .i64 9, .int .i64 64000, .int .i64 1000, .int .u32 9] 46))).cell? ⟨w.heap.size, 3, none⟩ = some (.int .i64 64000) := by rw [cell_of_block q1]; rfl
  have e4 : ((w.alloc (.cells #[.int .i64 1, .int .i64 2, .int .i64 9, .int .i64 64000, .int .i64 1000, .int .u32 9] 46))).cell? ⟨w.heap.size, 4, none⟩ = some (.int .i64 1000) := by rw [cell_of_block q1]; rfl
  have e5 : ((w.alloc (.cells #[.int .i64 1, .int .i64 2, .int .i64 9, .int .i64 64000, .int .i64 1000, .int .u32 9] 46))).cell? ⟨w.heap.size, 5, none⟩ = some (.int .u32 9) := by rw [cell_of_block q1]; rfl
  have HG := Lib.hid B1
  clear q1 B1
  go_enter Tryz.func10, Tryz.ntmps10
  go_wp2_with fail
  exact bodyPost_ret (v := .agg #[.int .i64 1, .int .i64 2, .int .i64 9, .int .i64 64000, .int .i64 1000, .int .u32 9]) (by simp [results, Tryz.f10, go_sem, e0, e1, e2, e3, e4, e5]) rfl ⟨rfl, HG.out⟩

theorem skActs_row (w : World) : AcRow (w.alloc (.cells #[.int .i64 1, .int .i64 0, SV [97], SV [120], .int .i64 1, .int .i64 0, SV [97], SV [121], .int .i64 14, .int .i64 0, .string ⟨#[]⟩, .string ⟨#[]⟩, .int .i64 16, .int .i64 0, .string ⟨#[]⟩, .string ⟨#[]⟩, .int .i64 16, .int .i64 0, .string ⟨#[]⟩, .string ⟨#[]⟩, .int .i64 16, .int .i64 4, .string ⟨#[]⟩, .string ⟨#[]⟩, .int .i64 16, .int .i64 1, .string ⟨#[]⟩, .string ⟨#[]⟩] 23)) (.slice (some ⟨w.heap.size, 0, none⟩) 7 7) skActs := by
  have q := heap_alloc_new w (.cells #[.int .i64 1, .int .i64 0, SV [97], SV [120], .int .i64 1, .int .i64 0, SV [97], SV [121], .int .i64 14, .int .i64 0, .string ⟨#[]⟩, .string ⟨#[]⟩, .int .i64 16, .int .i64 0, .string ⟨#[]⟩, .string ⟨#[]⟩, .int .i64 16, .int .i64 0, .string ⟨#[]⟩, .string ⟨#[]⟩, .int .i64 16, .int .i64 4, .string ⟨#[]⟩, .string ⟨#[]⟩, .int .i64 16, .int .i64 1, .string ⟨#[]⟩, .string ⟨#[]⟩] 23)
  refine ⟨_, 7, rfl, fun i hi => ?_⟩
  match i, hi with
  | 0, _ => exact ⟨by rw [cell_of_block q]; rfl, by rw [cell_of_block q]; rfl, by rw [cell_of_block q]; rfl, by rw [cell_of_block q]; rfl⟩
  | 1, _ => exact ⟨by rw [cell_of_block q]; rfl, by rw [cell_of_block q]; rfl, by rw [cell_of_block q]; rfl, by rw [cell_of_block q]; rfl⟩
  | 2, _ => exact ⟨by rw [cell_of_block q]; rfl, by rw [cell_of_block q]; rfl, by rw [cell_of_block q]; rfl, by rw [cell_of_block q]; rfl⟩
  | 3, _ => exact ⟨by rw [cell_of_block q]; rfl, by rw [cell_of_block q]; rfl, by rw [cell_of_block q]; rfl, by rw [cell_of_block q]; rfl⟩
  | 4, _ => exact ⟨by rw [cell_of_block q]; rfl, by rw [cell_of_block q]; rfl, by rw [cell_of_block q]; rfl, by rw [cell_of_block q]; rfl⟩
  | 5, _ => exact ⟨by rw [cell_of_block q]; rfl, by rw [cell_of_block q]; rfl, by rw [cell_of_block q]; rfl, by rw [cell_of_block q]; rfl⟩
  | 6, _ => exact ⟨by rw [cell_of_block q]; rfl, by rw [cell_of_block q]; rfl, by rw [cell_of_block q]; rfl, by rw [cell_of_block q]; rfl⟩
  | k + 7, h => exact absurd h (by simp [skActs])
theorem skAns_row (w3 : World) : ARow (((w3.alloc (.cells #[SV [97], SV [120]] 50)).alloc (.cells #[SV [97], SV [121]] 50)).alloc (.cells #[.int .i64 0, .int .i64 0, .slice none 0 0, .int .i64 0, .int .i64 1, .slice (some ⟨w3.heap.size, 0, none⟩) 1 1, .int .i64 0, .int .i64 0, .slice none 0 0, .int .i64 0, .int .i64 0, .slice (some ⟨w3.heap.size + 1, 0, none⟩) 1 1, .int .i64 5, .int .i64 0, .slice none 0 0, .int .i64 2, .int .i64 0, .slice none 0 0, .int .i64 7, .int .i64 0, .slice none 0 0] 35)) (.slice (some ⟨w3.heap.size + 2, 0, none⟩) 7 7) skAns := by
  have q := heap_alloc_new ((w3.alloc (.cells #[SV [97], SV [120]] 50)).alloc (.cells #[SV [97], SV [121]] 50)) (.cells #[.int .i64 0, .int .i64 0, .slice none 0 0, .int .i64 0, .int .i64 1, .slice (some ⟨w3.heap.size, 0, none⟩) 1 1, .int .i64 0, .int .i64 0, .slice none 0 0, .int .i64 0, .int .i64 0, .slice (some ⟨w3.heap.size + 1, 0, none⟩) 1 1, .int .i64 5, .int .i64 0, .slice none 0 0, .int .i64 2, .int .i64 0, .slice none 0 0, .int .i64 7, .int .i64 0, .slice none 0 0] 35)
  have z1 : (w3.alloc (.cells #[SV [97], SV [120]] 50)).heap.size = w3.heap.size + 1 := by simp
  have z2 : ((w3.alloc (.cells #[SV [97], SV [120]] 50)).alloc (.cells #[SV [97], SV [121]] 50)).heap.size = w3.heap.size + 2 := by simp
  rw [z2] at q
  have A2 := (Below.refl _ (w3.alloc (.cells #[SV [97], SV [120]] 50))).alloc (Nat.le_refl _) (.cells #[SV [97], SV [121]] 50)
  have A3 := (Below.refl _ ((w3.alloc (.cells #[SV [97], SV [120]] 50)).alloc (.cells #[SV [97], SV [121]] 50))).alloc (Nat.le_refl _) (.cells #[.int .i64 0, .int .i64 0, .slice none 0 0, .int .i64 0, .int .i64 1, .slice (some ⟨w3.heap.size, 0, none⟩) 1 1, .int .i64 0, .int .i64 0, .slice none 0 0, .int .i64 0, .int .i64 0, .slice (some ⟨w3.heap.size + 1, 0, none⟩) 1 1, .int .i64 5, .int .i64 0, .slice none 0 0, .int .i64 2, .int .i64 0, .slice none 0 0, .int .i64 7, .int .i64 0, .slice none 0 0] 35)
  have p1 := (A3.block w3.heap.size (by omega)).trans ((A2.block w3.heap.size (by omega)).trans (heap_alloc_new w3 (.cells #[SV [97], SV [120]] 50)))
  have p2 := (A3.block (w3.heap.size + 1) (by omega)).trans (z1 ▸ heap_alloc_new (w3.alloc (.cells #[SV [97], SV [120]] 50)) (.cells #[SV [97], SV [121]] 50))
  clear A2 A3 z1 z2
  refine ⟨_, 7, rfl, fun i hi => ?_⟩
  match i, hi with
  | 0, _ => exact ⟨_, 0, .slice none 0 0, rfl, by rw [cell_of_block q]; rfl, by rw [cell_of_block q]; rfl, by rw [cell_of_block q]; rfl, PRow.nil _⟩
  | 1, _ => exact ⟨_, 0, .slice (some ⟨w3.heap.size, 0, none⟩) 1 1, rfl, by rw [cell_of_block q]; rfl, by rw [cell_of_block q]; rfl, by rw [cell_of_block q]; rfl, PRow.one p1⟩
  | 2, _ => exact ⟨_, 0, .slice none 0 0, rfl, by rw [cell_of_block q]; rfl, by rw [cell_of_block q]; rfl, by rw [cell_of_block q]; rfl, PRow.nil _⟩
  | 3, _ => exact ⟨_, 0, .slice (some ⟨w3.heap.size + 1, 0, none⟩) 1 1, rfl, by rw [cell_of_block q]; rfl, by rw [cell_of_block q]; rfl, by rw [cell_of_block q]; rfl, PRow.one p2⟩
  | 4, _ => exact ⟨_, 0, .slice none 0 0, rfl, by rw [cell_of_block q]; rfl, by rw [cell_of_block q]; rfl, by rw [cell_of_block q]; rfl, PRow.nil _⟩
  | 5, _ => exact ⟨_, 0, .slice none 0 0, rfl, by rw [cell_of_block q]; rfl, by rw [cell_of_block q]; rfl, by rw [cell_of_block q]; rfl, PRow.nil _⟩
  | 6, _ => exact ⟨_, 0, .slice none 0 0, rfl, by rw [cell_of_block q]; rfl, by rw [cell_of_block q]; rfl, by rw [cell_of_block q]; rfl, PRow.nil _⟩
  | k + 7, h => exact absurd h (by simp [skAns])

set_option maxRecDepth 100000 in
set_option maxHeartbeats 3200000 in
theorem awake28 {w : World} (ht : Tab64 w) :
    Calls Tryz.prog 4 #[] w fun e w' => e = .returned (.bool true) ∧ Below w.heap.size w w' := by
  have hpl := fun V (hV : Below w.heap.size w V) => play_walk (w := V.alloc (.cells #[.int .i64 1, .int .i64 0, SV [97], SV [120], .int .i64 1, .int .i64 0, SV [97], SV [121], .int .i64 14, .int .i64 0, .string ⟨#[]⟩, .string ⟨#[]⟩, .int .i64 16, .int .i64 0, .string ⟨#[]⟩, .string ⟨#[]⟩, .int .i64 16, .int .i64 0, .string ⟨#[]⟩, .string ⟨#[]⟩, .int .i64 16, .int .i64 4, .string ⟨#[]⟩, .string ⟨#[]⟩, .int .i64 16, .int .i64 1, .string ⟨#[]⟩, .string ⟨#[]⟩] 23)) (skAt_cl ((ht.of_block (hV.block _ ht.lt)).of_block (((Below.refl _ V).alloc (Nat.le_refl _) (.cells #[.int .i64 1, .int .i64 0, SV [97], SV [120], .int .i64 1, .int .i64 0, SV [97], SV [121], .int .i64 14, .int .i64 0, .string ⟨#[]⟩, .string ⟨#[]⟩, .int .i64 16, .int .i64 0, .string ⟨#[]⟩, .string ⟨#[]⟩, .int .i64 16, .int .i64 0, .string ⟨#[]⟩, .string ⟨#[]⟩, .int .i64 16, .int .i64 4, .string ⟨#[]⟩, .string ⟨#[]⟩, .int .i64 16, .int .i64 1, .string ⟨#[]⟩, .string ⟨#[]⟩] 23)).block _ (ht.of_block (hV.block _ ht.lt)).lt))) skActs skAns rfl (skActs_row V) (by decide)
    ((begin_walk ((Below.refl _ (V.alloc (.cells #[.int .i64 1, .int .i64 0, SV [97], SV [120], .int .i64 1, .int .i64 0, SV [97], SV [121], .int .i64 14, .int .i64 0, .string ⟨#[]⟩, .string ⟨#[]⟩, .int .i64 16, .int .i64 0, .string ⟨#[]⟩, .string ⟨#[]⟩, .int .i64 16, .int .i64 0, .string ⟨#[]⟩, .string ⟨#[]⟩, .int .i64 16, .int .i64 4, .string ⟨#[]⟩, .string ⟨#[]⟩, .int .i64 16, .int .i64 1, .string ⟨#[]⟩, .string ⟨#[]⟩] 23))).alloc (Nat.le_refl _) (.cells #[.int .i64 1, .int .i64 2, .int .i64 9, .int .i64 64000, .int .i64 1000, .int .u32 9] 46)) ((ht.of_block (hV.block _ ht.lt)).of_block (((Below.refl _ V).alloc (Nat.le_refl _) (.cells #[.int .i64 1, .int .i64 0, SV [97], SV [120], .int .i64 1, .int .i64 0, SV [97], SV [121], .int .i64 14, .int .i64 0, .string ⟨#[]⟩, .string ⟨#[]⟩, .int .i64 16, .int .i64 0, .string ⟨#[]⟩, .string ⟨#[]⟩, .int .i64 16, .int .i64 0, .string ⟨#[]⟩, .string ⟨#[]⟩, .int .i64 16, .int .i64 4, .string ⟨#[]⟩, .string ⟨#[]⟩, .int .i64 16, .int .i64 1, .string ⟨#[]⟩, .string ⟨#[]⟩] 23)).block _ (ht.of_block (hV.block _ ht.lt)).lt))).mono fun e w' h => by
      obtain ⟨pw, e1, h1⟩ := h
      exact ⟨pw, _, e1, h1⟩)
    (sk_steps ((ht.of_block (hV.block _ ht.lt)).of_block (((Below.refl _ V).alloc (Nat.le_refl _) (.cells #[.int .i64 1, .int .i64 0, SV [97], SV [120], .int .i64 1, .int .i64 0, SV [97], SV [121], .int .i64 14, .int .i64 0, .string ⟨#[]⟩, .string ⟨#[]⟩, .int .i64 16, .int .i64 0, .string ⟨#[]⟩, .string ⟨#[]⟩, .int .i64 16, .int .i64 0, .string ⟨#[]⟩, .string ⟨#[]⟩, .int .i64 16, .int .i64 4, .string ⟨#[]⟩, .string ⟨#[]⟩, .int .i64 16, .int .i64 1, .string ⟨#[]⟩, .string ⟨#[]⟩] 23)).block _ (ht.of_block (hV.block _ ht.lt)).lt)))
  have HG := Lib.hid hpl
  clear hpl ht
  go_enter Tryz.func4, Tryz.ntmps4
  go_wp2_with fail
  refine (one28 _).mono ?_
  rintro e w1 ⟨rfl, b1⟩
  have H1 := Lib.hid b1
  clear b1
  go_wp2_with fail
  refine (HG.out w1 H1.out).mono ?_
  rintro e w3 ⟨u, rfl, row, b3⟩
  have B3 := H1.out.trans (((Below.refl _ w1).alloc (Nat.le_refl _) (.cells #[.int .i64 1, .int .i64 0, SV [97], SV [120], .int .i64 1, .int .i64 0, SV [97], SV [121], .int .i64 14, .int .i64 0, .string ⟨#[]⟩, .string ⟨#[]⟩, .int .i64 16, .int .i64 0, .string ⟨#[]⟩, .string ⟨#[]⟩, .int .i64 16, .int .i64 0, .string ⟨#[]⟩, .string ⟨#[]⟩, .int .i64 16, .int .i64 4, .string ⟨#[]⟩, .string ⟨#[]⟩, .int .i64 16, .int .i64 1, .string ⟨#[]⟩, .string ⟨#[]⟩] 23)).trans (b3.mono (by simp)) |>.mono H1.out.size)
  have A1 := (Below.refl _ w3).alloc (Nat.le_refl _) (.cells #[SV [97], SV [120]] 50)
  have A2 := A1.alloc A1.size (.cells #[SV [97], SV [121]] 50)
  have A3 := A2.alloc A2.size (.cells #[.int .i64 0, .int .i64 0, .slice none 0 0, .int .i64 0, .int .i64 1, .slice (some ⟨w3.heap.size, 0, none⟩) 1 1, .int .i64 0, .int .i64 0, .slice none 0 0, .int .i64 0, .int .i64 0, .slice (some ⟨w3.heap.size + 1, 0, none⟩) 1 1, .int .i64 5, .int .i64 0, .slice none 0 0, .int .i64 2, .int .i64 0, .slice none 0 0, .int .i64 7, .int .i64 0, .slice none 0 0] 35)
  have hs := same_walk (row.below A3) (skAns_row w3) (by decide) (by decide)
  have HS := Lib.hid (And.intro hs (B3.trans (A3.mono B3.size)))
  clear row b3 B3 A1 A2 A3 hs
  go_wp2_with fail
  refine HS.out.1.mono ?_
  rintro e w5 ⟨rfl, b5⟩
  have H5 := Lib.hid (HS.out.2.trans (b5.mono HS.out.2.size))
  clear b5
  go_wp2_with fail
  go_ret
  exact ⟨rfl, H5.out⟩
end Go.Proofs.YtoaabbnieakidaaGreatDoorR
