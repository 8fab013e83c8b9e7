import Derived.Test.YtcibkdbpicledaaGreatDoorWah
import Derived.Defers
import Derived.Deep.RegionHeld3
import Derived.Deep.OwnRows
import Derived.Laws.IdiomStrings
set_option maxRecDepth 100000
set_option maxHeartbeats 3200000
namespace Go.Proofs.YtcibkdbpicledaaGreatDoor
open Go.RowKit Go.BigFrame Go.Maps Go.WideMaps Lf
theorem StIn.of_keep {w w' : World} {ps pa pm ph pt : Nat} {v : Value} {S : St} {Y : Nat → Prop} (h : StIn w ps pa pm ph pt v S Y) (hs : w.heap.size ≤ w'.heap.size)
 (hk : ∀ k, k < w.heap.size → (¬ Y k ∨ k = ps ∨ k = ph ∨ k = tabB) → w'.heap[k]? = w.heap[k]?) : StIn w' ps pa pm ph pt v S Y := by
 obtain ⟨blk, hsl⟩ := h.heap.slab
 have hnY : ∀ k, ¬ YS Y ps ph pt v k → ¬ Y k := fun k hk hy => hk (Or.inl hy)
 have hpt : ¬ Y pt := fun hy => (h.off pt (Or.inl hy)).1 rfl
 refine ⟨?_, ⟨⟨blk, hsl.of_keep hs fun k hkl hkk => hk k hkl (Or.inl (hnY k ?_))⟩, ?_, h.heap.yh, h.heap.tab.of_block (hk tabB h.heap.tab.lt (Or.inr (Or.inr (Or.inr rfl)))), h.heap.yt⟩, h.tab.of_keep (hk pt h.tab.pt_lt (Or.inl hpt)) fun b hb => hk b (h.tab.own_lt hb) (Or.inl fun hy => (h.off b (Or.inl hy)).2 hb), h.off⟩
 · rw [hk ps (gl h.hd) (Or.inr (Or.inl rfl))]; exact h.hd
 · rcases hkk with rfl | rfl | ⟨p, hp, rfl⟩
   · exact hsl.ya
   · exact hsl.ym
   · exact hsl.yp p hp
 · rw [hk ph h.heap.lt (Or.inr (Or.inr (Or.inl rfl)))]; exact h.heap.hp
theorem StIn.wide {w w' : World} {ps pa pm ph pt : Nat} {v : Value} {S : St} {Y : Nat → Prop} (h : StIn w ps pa pm ph pt v S Y) (hb : Below w.heap.size w w') : StIn w' ps pa pm ph pt v S (fun k => Y k ∨ (w.heap.size ≤ k ∧ k < w'.heap.size)) := by
 have h' := h.below hb
 refine ⟨h'.hd, ?_, h'.tab, ?_⟩
 · refine (h.heap.wide hb).mono ?_ (Or.inr (Or.inr (Or.inl rfl))) (Or.inr (Or.inr (Or.inr (Or.inl rfl))))
   rintro k ((hk | hk) | hk)
   · exact Or.inl (Or.inl hk)
   · exact Or.inr hk
   · exact Or.inl (Or.inr hk)
 · rintro k ((hk | hk) | hk)
   · exact h.off k (Or.inl hk)
   · have h1 := h.tab.pt_lt
     refine ⟨by omega, fun e => ?_⟩
     have := h.tab.own_lt e
     omega
   · exact h.off k (Or.inr hk)
theorem StIn.mono {w : World} {ps pa pm ph pt : Nat} {v : Value} {S : St} {Y Z : Nat → Prop} (h : StIn w ps pa pm ph pt v S Y) (hz : ∀ k, Z k → Y k) : StIn w ps pa pm ph pt v S Z :=
 ⟨h.hd, h.heap.mono (fun _ hk => hk.imp (hz _) id) (Or.inr (Or.inr (Or.inl rfl))) (Or.inr (Or.inr (Or.inr (Or.inl rfl)))), h.tab, fun k hk => h.off k (hk.imp (hz k) id)⟩
theorem StIn.setCell {w : World} {ps pa pm ph pt : Nat} {v : Value} {S : St} {Y : Nat → Prop} (h : StIn w ps pa pm ph pt v S Y) {b o : Nat} (hy : Y b) (h1 : b ≠ ps) (h2 : b ≠ ph) (h3 : b ≠ tabB) (x : Value) : StIn (w.setCell ⟨b, o, none⟩ x) ps pa pm ph pt v S Y :=
 h.of_keep (Nat.le_of_eq (size_setCell w _ _).symm) fun k _ hk => heap_setCell_ne (by
  rintro rfl
  rcases hk with hk | hk | hk | hk
  · exact hk hy
  · exact h1 hk
  · exact h2 hk
  · exact h3 hk)
theorem allocH_le {s : Slab} (hw : SlabWF s) (n : Nat) : (allocH s n).1.1 ≤ 1152921504606846976 := by
 have hp : ∀ p c k, p ≤ 1048576 → placeH p c k ≤ 1152921504606846976 := fun p c k h => by
  have := classPlace_le c k
  unfold placeH
  omega
 unfold allocH
 by_cases h : n < 1 ∨ 4000 < n
 · rw [if_pos h]; simp
 · rw [if_neg h]
   cases hc : classOf n with
   | none =>
    simp only
    have := grant_le hw (n := classPages n) (by have := classPages_le (n := n) (by omega); omega)
    obtain ⟨⟨⟨gp, ge⟩, gs⟩, hg⟩ : ∃ g, s.grant (classPages n) = g := ⟨_, rfl⟩
    rw [hg] at this ⊢
    simp only at this
    cases ge with
    | zero => simp only; omega
    | succ e => simp
   | some c =>
    simp only
    cases hs : spotH s c with
    | some pk =>
     obtain ⟨p, k⟩ := pk
     simp only [takeH]
     exact hp _ _ _ (by have := (spotH_le hw hs).1; omega)
    | none =>
     simp only
     have := grant_le hw (n := 1) (by omega)
     obtain ⟨⟨⟨gp, ge⟩, gs⟩, hg⟩ : ∃ g, s.grant 1 = g := ⟨_, rfl⟩
     rw [hg] at this ⊢
     simp only at this
     cases ge with
     | zero => simp only [takeH]; exact hp _ _ _ (by omega)
     | succ e => simp
theorem firstFree_le : ∀ (l : List Slot) (k : Nat), firstFree l k ≤ k + l.length
 | [], k => Nat.le_refl _
 | x :: r, k => by
  unfold firstFree
  split
  · simp
  · have := firstFree_le r (k + 1); simp only [List.length_cons]; omega
theorem open_lt {t : Tab} (hw : TabWF t) (a : Nat) : (t.open a).1.1 < 18446744073709551616 := by
 have h1 := firstFree_le t.slots 0
 have h2 := hw.len
 have h3 := hw.most
 have h4 : (t.genAt (firstFree t.slots 0) + 1) % 4294967296 < 4294967296 := Nat.mod_lt _ (by decide)
 unfold Tab.open
 simp only
 split
 · simp
 · simp only [nameOf]; omega
theorem open_same (t : Tab) (a : Nat) : (t.open a).2.most = t.most ∧ (t.open a).2.last = t.last := by
 unfold Tab.open
 simp only
 split <;> exact ⟨rfl, rfl⟩
theorem make_door {w : World} {be bs ba : Nat} (he : w.cell? ⟨be, 0, none⟩ = some (.int .i64 0)) :
 CallsD Tryz.prog 92 #[PV be, PV bs, PV ba] .returning w fun e u' w' => u' = .returning ∧ (e = .returned (.tuple #[]) ∧ w' = w) := by
 go_enter_d Tryz.func92, Tryz.ntmps92
 go_wp2_with fail
 go_end0
 exact ⟨rfl, rfl⟩
theorem st_make {w : World} {ps : Nat} {S : St} {Y : Nat → Prop} (h : StOn w ps S Y) (n : Nat) (hn : n ≤ 3998) (ho : (S.t.open (allocH S.a (n + 2)).1.1).1.2 = 0) :
 Calls Tryz.prog 68 #[PV ps, .int .i64 n] w fun e w' => e = .returned (.tuple #[.int .u64 ((S.make n).1.1 : Nat), .int .i64 ((S.make n).1.2 : Nat)]) ∧ StOn w' ps (S.make n).2 Y ∧ Keep Y w w' := by
 have hn' : (n : Int) ≤ 3998 := by omega
 have hb1 := ((Below.refl _ w).alloc (Nat.le_refl _) (.cells #[PV ps] 25)).alloc (by simp) (.cells #[.int .i64 0] 30)
 obtain ⟨pa, pm, ph, pt, v, h⟩ := h
 have h1 := h.wide hb1
 have hno := st_none ⟨_, _, _, _, _, h1⟩
 have hpl : ph < w.heap.size ∧ pt < w.heap.size ∧ ps < w.heap.size ∧ tabB < w.heap.size ∧ ∀ b, v.ownBlock = some b → b < w.heap.size := ⟨h.heap.lt, h.tab.pt_lt, (gl h.hd), h.heap.tab.lt, fun b hb => h.tab.own_lt hb⟩
 have hsz1 : ((w.alloc (.cells #[PV ps] 25)).alloc (.cells #[.int .i64 0] 30)).heap.size = w.heap.size + 2 := by simp
 have k0 : ((w.alloc (.cells #[PV ps] 25)).alloc (.cells #[.int .i64 0] 30)).heap[w.heap.size]? = some (.cells #[PV ps] 25 (0, 0)) := by
  rw [heap_alloc_old _ _ (by simp)]; exact heap_alloc_new w _
 have k1 : ((w.alloc (.cells #[PV ps] 25)).alloc (.cells #[.int .i64 0] 30)).heap[w.heap.size + 1]? = some (.cells #[.int .i64 0] 30 (0, 0)) := by
  have := heap_alloc_new (w.alloc (.cells #[PV ps] 25)) (.cells #[.int .i64 0] 30)
  rwa [World.size_alloc] at this
 have hR : S.make n = match allocH S.a (n + 2) with
  | ((addr, 0), a1) =>
   match S.t.open addr with
   | ((h, 0), t1) => ((h, 0), ⟨(a1.wr addr h).wr (addr + 1) n, t1⟩)
   | ((_, e), t1) => ((0, e), ⟨(freeH a1 addr).2, t1⟩)
  | ((_, e), a1) => ((0, e), { S with a := a1 }) := by unfold St.make; rw [if_neg (by omega)]; rfl
 obtain ⟨R, hRR⟩ : ∃ R, S.make n = R := ⟨_, rfl⟩
 rw [hRR] at hR ⊢
 have hal := heap_alloc h1.heap (n + 2) (by omega)
 have hale := allocH_le h1.heap.wf (n + 2)
 obtain ⟨⟨⟨ad, er⟩, a1⟩, hA⟩ : ∃ r, allocH S.a (n + 2) = r := ⟨_, rfl⟩
 rw [hA] at hR ho hal hale
 simp only at hR ho hal hale
 have hcast : ((n + 2 : Nat) : Int) = (n : Int) + 2 := by omega
 rw [hcast] at hal
 have HG := kq9 hno hal h1 h hb1 k0 k1 hR ho
 cases er with
 | succ er =>
  have hq1 : (((er + 1 : Nat) : Int) != 0) = true := by simp; omega
  obtain ⟨g1, hg1⟩ : ∃ g1, er + 1 = g1 := ⟨_, rfl⟩
  rw [hg1] at HG hq1 hal hR
  have hq2 : ¬ (g1 : Int) = 0 := by omega
  have hR1 : R = ((0, g1), { S with a := a1 }) := by rw [hR, ← hg1]; rfl
  have HR1 := Lib.hid hR1
  clear hR1
  clear hno hal h1 h hb1 k0 k1 hR ho hRR hA hcast hg1
  go_enter_defers Tryz.func68, Tryz.ntmps68
  go_wp2_with fail
  generalize ((w.alloc (.cells #[PV ps] 25)).alloc (.cells #[.int .i64 0] 30)) = W1 at *
  obtain ⟨hno, hal, h1, h, hb1, k0, k1, hR, ho⟩ := HG.out
  refine hno.mono ?_
  rintro e w1 ⟨rfl, rfl⟩
  obtain ⟨_, _, _, c3, c4⟩ := h1.cells
  have d0 : W1.cell? ⟨w.heap.size, 0, none⟩ = some (PV ps) := by rw [cell_of_block k0]; rfl
  clear hno hal h1 h hb1 k0 k1 hR ho c4
  go_wp2_with fail
  refine HG.out.2.1.mono ?_
  rintro e w2 ⟨rfl, hA2, hk2⟩
  obtain ⟨hno, hal, h1, h, hb1, k0, k1, hR, ho⟩ := HG.out
  have h2 := h1.arena hA2 hk2
  have hsz2 := hk2.size
  have j0 : w2.heap[w.heap.size]? = some (.cells #[PV ps] 25 (0, 0)) := (hk2.block _ (Or.inl (Or.inr ⟨Nat.le_refl _, by omega⟩))).trans k0
  have j1 : w2.heap[w.heap.size + 1]? = some (.cells #[.int .i64 0] 30 (0, 0)) := (hk2.block _ (Or.inl (Or.inr ⟨by omega, by omega⟩))).trans k1
  have e1 : w2.cell? ⟨w.heap.size + 1, 0, none⟩ = some (.int .i64 0) := by rw [cell_of_block j1]; rfl
  have f1 : w2.frozen? ⟨w.heap.size + 1, 0, none⟩ = false := frozen_of_block j1
  have hlt2 : w.heap.size + 1 < w2.heap.size := by omega
  have H2 := kq5 h2 hsz2 j0 j1 hk2
  clear hno hal h1 h hb1 k0 k1 hR ho h2 hsz2 j0 j1 hA2 hk2 c3 d0
  go_wp2_with fail
  go_region
  go_wp2_with fail
  obtain ⟨_, _, h1, h, hb1, _, _, hR, _⟩ := HG.out
  obtain ⟨h2, hsz2, j0, j1, hk2⟩ := H2.out
  have x1 : ((w2.setCell ⟨w.heap.size + 1, 0, none⟩ (.int .i64 g1)).setCell ⟨w.heap.size + 1, 0, none⟩ (.int .i64 g1)).heap[w.heap.size + 1]? = some (.cells #[.int .i64 g1] 30 (0, 0)) := by
   rw [heap_setCell (heap_setCell j1)]; rfl
  have x2 := (h2.setCell (b := w.heap.size + 1) (o := 0) (Or.inr ⟨by omega, by omega⟩) (by omega) (by omega) (by omega) (.int .i64 g1)).setCell (b := w.heap.size + 1) (o := 0) (Or.inr ⟨by omega, by omega⟩) (by omega) (by omega) (by omega) (.int .i64 g1)
  have x3 := ((Below.refl _ ((w2.setCell ⟨w.heap.size + 1, 0, none⟩ (.int .i64 g1)).setCell ⟨w.heap.size + 1, 0, none⟩ (.int .i64 g1))).alloc (Nat.le_refl _) (.cells #[.int .i64 ad] 3))
  have x4 := (x2.below x3).below (w' := (((w2.setCell ⟨w.heap.size + 1, 0, none⟩ (.int .i64 g1)).setCell ⟨w.heap.size + 1, 0, none⟩ (.int .i64 g1)).alloc (.cells #[.int .i64 ad] 3)).drew) ⟨rfl, rfl, rfl, Nat.le_refl _, fun _ _ => rfl⟩
  have x5 : ∀ k, k < w.heap.size → (((w2.setCell ⟨w.heap.size + 1, 0, none⟩ (.int .i64 g1)).setCell ⟨w.heap.size + 1, 0, none⟩ (.int .i64 g1)).alloc (.cells #[.int .i64 ad] 3)).drew.heap[k]? = w2.heap[k]? := fun k hk => by
   show (World.alloc _ _).heap[k]? = _
   rw [heap_alloc_old _ _ (by simp; omega), heap_setCell_ne (by omega), heap_setCell_ne (by omega)]
  have x6 : (((w2.setCell ⟨w.heap.size + 1, 0, none⟩ (.int .i64 g1)).setCell ⟨w.heap.size + 1, 0, none⟩ (.int .i64 g1)).alloc (.cells #[.int .i64 ad] 3)).drew.cell? ⟨w.heap.size + 1, 0, none⟩ = some (.int .i64 g1) := by
   show (World.alloc _ _).cell? _ = _
   rw [cell_of_block (by rw [heap_alloc_old _ _ (by simp; omega)]; exact x1)]
   rfl
  have x7 : w2.heap.size ≤ (((w2.setCell ⟨w.heap.size + 1, 0, none⟩ (.int .i64 g1)).setCell ⟨w.heap.size + 1, 0, none⟩ (.int .i64 g1)).alloc (.cells #[.int .i64 ad] 3)).drew.heap.size := by
   show _ ≤ (World.alloc _ _).heap.size
   simp
  have x8 : (((w2.setCell ⟨w.heap.size + 1, 0, none⟩ (.int .i64 g1)).setCell ⟨w.heap.size + 1, 0, none⟩ (.int .i64 g1)).alloc (.cells #[.int .i64 ad] 3)).drew.os = w2.os ∧ (((w2.setCell ⟨w.heap.size + 1, 0, none⟩ (.int .i64 g1)).setCell ⟨w.heap.size + 1, 0, none⟩ (.int .i64 g1)).alloc (.cells #[.int .i64 ad] 3)).drew.tape = w2.tape ∧ (((w2.setCell ⟨w.heap.size + 1, 0, none⟩ (.int .i64 g1)).setCell ⟨w.heap.size + 1, 0, none⟩ (.int .i64 g1)).alloc (.cells #[.int .i64 ad] 3)).drew.output = w2.output := ⟨rfl, rfl, rfl⟩
  obtain rfl := HR1.out
  generalize (((w2.setCell ⟨w.heap.size + 1, 0, none⟩ (.int .i64 g1)).setCell ⟨w.heap.size + 1, 0, none⟩ (.int .i64 g1)).alloc (.cells #[.int .i64 ad] 3)).drew = W9 at *
  refine ⟨.tuple #[.int .u64 0, .int .i64 g1], ?_, rfl, ⟨_, _, _, _, _, x4.mono fun k hk => Or.inl hk⟩, ?_⟩
  · simp [results, Tryz.f68, go_sem, x6]
  · refine ⟨x8.1.trans (hk2.os.trans hb1.os), x8.2.1.trans (hk2.tape.trans hb1.tape), x8.2.2.trans (hk2.output.trans hb1.output), by omega, fun k hk => ?_⟩
    have hk0 := h.yl k hk
    rw [x5 k hk0, hk2.block k (Or.inl (Or.inl hk)), hb1.block k hk0]
 | zero =>
  clear hno hal h1 h hb1 k0 k1 hR ho hRR hA hcast
  go_enter_defers Tryz.func68, Tryz.ntmps68
  go_wp2_with fail
  generalize ((w.alloc (.cells #[PV ps] 25)).alloc (.cells #[.int .i64 0] 30)) = W1 at *
  obtain ⟨hno, hal, h1, h, hb1, k0, k1, hR, ho⟩ := HG.out
  refine hno.mono ?_
  rintro e w1 ⟨rfl, rfl⟩
  obtain ⟨_, _, _, c3, c4⟩ := h1.cells
  have d0 : W1.cell? ⟨w.heap.size, 0, none⟩ = some (PV ps) := by rw [cell_of_block k0]; rfl
  clear hno hal h1 h hb1 k0 k1 hR ho c4
  go_wp2_with fail
  refine HG.out.2.1.mono ?_
  rintro e w2 ⟨rfl, hA2, hk2⟩
  obtain ⟨hno, hal, h1, h, hb1, k0, k1, hR, ho⟩ := HG.out
  have h2 := h1.arena hA2 hk2
  have hsz2 := hk2.size
  have j0 : w2.heap[w.heap.size]? = some (.cells #[PV ps] 25 (0, 0)) := (hk2.block _ (Or.inl (Or.inr ⟨Nat.le_refl _, by omega⟩))).trans k0
  have j1 : w2.heap[w.heap.size + 1]? = some (.cells #[.int .i64 0] 30 (0, 0)) := (hk2.block _ (Or.inl (Or.inr ⟨by omega, by omega⟩))).trans k1
  have e1 : w2.cell? ⟨w.heap.size + 1, 0, none⟩ = some (.int .i64 0) := by rw [cell_of_block j1]; rfl
  have f1 : w2.frozen? ⟨w.heap.size + 1, 0, none⟩ = false := frozen_of_block j1
  have hlt2 : w.heap.size + 1 < w2.heap.size := by omega
  have H2 := kq5 h2 hsz2 j0 j1 hk2
  clear hno hal h1 h hb1 k0 k1 hR ho h2 hsz2 j0 j1 hA2 hk2 c3 d0
  go_wp2_with fail
  go_name_world W3 HW3
  obtain ⟨⟨⟨hh, he⟩, t1⟩, hO⟩ : ∃ r, S.t.open ad = r := ⟨_, rfl⟩
  obtain ⟨h2, hsz2, j0, j1, hk2⟩ := H2.out
  have hbA : Below (w2.setCell ⟨w.heap.size + 1, 0, none⟩ (.int .i64 0)).heap.size (w2.setCell ⟨w.heap.size + 1, 0, none⟩ (.int .i64 0)) ((w2.setCell ⟨w.heap.size + 1, 0, none⟩ (.int .i64 0)).alloc (.cells #[.int .i64 ad] 3)) := (Below.refl _ _).alloc (Nat.le_refl _) _
  have h3 := (h2.setCell (b := w.heap.size + 1) (o := 0) (Or.inr ⟨by omega, by omega⟩) (by omega) (by omega) (by omega) (.int .i64 0)).wide hbA
  have z3 : ((w2.setCell ⟨w.heap.size + 1, 0, none⟩ (.int .i64 0)).alloc (.cells #[.int .i64 ad] 3)).heap.size = w2.heap.size + 1 := by simp
  have g0 : ((w2.setCell ⟨w.heap.size + 1, 0, none⟩ (.int .i64 0)).alloc (.cells #[.int .i64 ad] 3)).heap[w.heap.size]? = some (.cells #[PV ps] 25 (0, 0)) := by
   rw [heap_alloc_old _ _ (by simp; omega), heap_setCell_ne (by omega)]; exact j0
  have g1 : ((w2.setCell ⟨w.heap.size + 1, 0, none⟩ (.int .i64 0)).alloc (.cells #[.int .i64 ad] 3)).heap[w.heap.size + 1]? = some (.cells #[.int .i64 0] 30 (0, 0)) := by
   rw [heap_alloc_old _ _ (by simp; omega), heap_setCell j1]; rfl
  have g2 : ((w2.setCell ⟨w.heap.size + 1, 0, none⟩ (.int .i64 0)).alloc (.cells #[.int .i64 ad] 3)).heap[w2.heap.size]? = some (.cells #[.int .i64 ad] 3 (0, 0)) := by
   have := heap_alloc_new (w2.setCell ⟨w.heap.size + 1, 0, none⟩ (.int .i64 0)) (.cells #[.int .i64 ad] 3)
   rwa [size_setCell] at this
  have kp3 : ∀ k, k < w2.heap.size → k ≠ w.heap.size + 1 → ((w2.setCell ⟨w.heap.size + 1, 0, none⟩ (.int .i64 0)).alloc (.cells #[.int .i64 ad] 3)).heap[k]? = w2.heap[k]? := fun k hk hne => by
   rw [heap_alloc_old _ _ (by simp; omega), heap_setCell_ne hne]
  have kos : ((w2.setCell ⟨w.heap.size + 1, 0, none⟩ (.int .i64 0)).alloc (.cells #[.int .i64 ad] 3)).os = w2.os ∧ ((w2.setCell ⟨w.heap.size + 1, 0, none⟩ (.int .i64 0)).alloc (.cells #[.int .i64 ad] 3)).tape = w2.tape ∧ ((w2.setCell ⟨w.heap.size + 1, 0, none⟩ (.int .i64 0)).alloc (.cells #[.int .i64 ad] 3)).output = w2.output := ⟨rfl, rfl, rfl⟩
  clear hbA
  simp only [size_setCell] at h3
  rw [HW3] at h3 z3 g0 g1 g2 kp3 kos
  rw [z3] at h3
  obtain ⟨hno, hal, h1, h, hb1, k0, k1, hR, ho⟩ := HG.out
  rw [hO] at ho
  simp only at ho
  subst ho
  have hol := open_lt h3.tab.wf ad
  have hos := open_same S.t ad
  simp only at hol
  rw [hO] at hol hos
  simp only at hol hos
  have d0 : W3.cell? ⟨w.heap.size, 0, none⟩ = some (PV ps) := by rw [cell_of_block g0]; rfl
  have d1 : W3.cell? ⟨w.heap.size + 1, 0, none⟩ = some (.int .i64 0) := by rw [cell_of_block g1]; rfl
  have d2 : W3.cell? ⟨w2.heap.size, 0, none⟩ = some (.int .i64 ad) := by rw [cell_of_block g2]; rfl
  have fr1 : W3.frozen? ⟨w.heap.size + 1, 0, none⟩ = false := frozen_of_block g1
  have d4 := h3.cells.2.2.2.2
  have hto2 : ∀ q, Calls Tryz.prog 94 #[PV pt, .int .i64 ad] (W3.drewN q) fun e w' => e = .returned (.tuple #[.int .u64 hh, .int .i64 0]) ∧ (w'.cell? ⟨w.heap.size, 0, none⟩ = some (PV ps) ∧ w'.cell? ⟨ps, 4, none⟩ = some (PV pt) ∧ w'.cell? ⟨w2.heap.size, 0, none⟩ = some (.int .i64 ad)) ∧ (w'.cell? ⟨w.heap.size + 1, 0, none⟩ = some (.int .i64 0) ∧ w'.frozen? ⟨w.heap.size + 1, 0, none⟩ = false) ∧ ∃ v', StIn w' ps pa pm ph pt v' ⟨a1, t1⟩ (fun k => (Y k ∨ w.heap.size ≤ k ∧ k < W1.heap.size) ∨ w2.heap.size ≤ k ∧ k < w2.heap.size + 1) ∧ Keep (fun k => k < W3.heap.size ∧ k ≠ pt ∧ v.ownBlock ≠ some k) W3 w' := fun q => by
   have h3q := h3.below (w' := W3.drewN q) ⟨rfl, rfl, rfl, Nat.le_refl _, fun _ _ => rfl⟩
   have hto := tab_open h3q.tab ad (by omega) (fun k => k < W3.heap.size ∧ k ≠ pt ∧ v.ownBlock ≠ some k) (fun b hb => ⟨hb.1, hb.2.1, fun e => hb.2.2 e.symm⟩)
   simp only at hto
   rw [hO] at hto
   refine hto.mono ?_
   rintro e w' ⟨rfl, ⟨v', ht, hv'⟩, hk⟩
   have hZ : ∀ k, k < w2.heap.size + 1 → w.heap.size ≤ k ∨ k = ps → k < W3.heap.size ∧ k ≠ pt ∧ v.ownBlock ≠ some k := fun k hk1 hk2 => by
    refine ⟨by omega, ?_, fun e => ?_⟩
    · rcases hk2 with hk2 | rfl
      · omega
      · exact (h.off _ (Or.inr (Or.inl rfl))).1
    · rcases hk2 with hk2 | rfl
      · have := hpl.2.2.2.2 k e; omega
      · exact (h.off _ (Or.inr (Or.inl rfl))).2 e
   have n0 := hk.block w.heap.size (hZ _ (by omega) (Or.inl (Nat.le_refl _)))
   have n1 := hk.block (w.heap.size + 1) (hZ _ (by omega) (Or.inl (by omega)))
   have n2 := hk.block w2.heap.size (hZ _ (by omega) (Or.inl (by omega)))
   have n3 := hk.block ps (hZ _ (by omega) (Or.inr rfl))
   refine ⟨rfl, ⟨(World.cell?_of_block n0).trans d0, (World.cell?_of_block n3).trans d4, (World.cell?_of_block n2).trans d2⟩, ⟨(World.cell?_of_block n1).trans d1, (World.frozen?_of_block n1).trans fr1⟩, v', ?_, ⟨hk.os, hk.tape, hk.output, hk.size, hk.block⟩⟩
   exact h3q.table ht hos _ (fun k h1 h2 h3 => ⟨h1, h2, h3⟩) hk (fun b hb e => hv' b hb e.symm)
  have H3 := kq10 h3 z3 g0 g1 g2 kp3 kos hto2 hol hO
  clear hno hal h1 h hb1 k0 k1 hR h3 z3 g0 g1 g2 kp3 kos hto2 hol hO hos h2 hsz2 j0 j1 hk2 e1 f1 HW3
  go_region_held3 (fun w' => w'.cell? ⟨w.heap.size, 0, none⟩ = some (PV ps) ∧ w'.cell? ⟨ps, 4, none⟩ = some (PV pt) ∧ w'.cell? ⟨w2.heap.size, 0, none⟩ = some (.int .i64 ad)) (first | exact ⟨d0, d4, d2⟩ | exact hQ | exact ⟨(World.cell?_of_block (heap_setCell_ne (show w.heap.size ≠ w.heap.size + 1 by omega))).trans hQ.1, (World.cell?_of_block (heap_setCell_ne (show ps ≠ w.heap.size + 1 by omega))).trans hQ.2.1, (World.cell?_of_block (heap_setCell_ne (show w2.heap.size ≠ w.heap.size + 1 by omega))).trans hQ.2.2⟩)
   (first | (go_at_call 94; refine (H3.out.2.2.2.2.2.2.2.1 1).mono ?_; rintro e w4 ⟨rfl, hQ, ⟨e4, f4⟩, v', h4, k4⟩))
  obtain ⟨h3, z3, g0, g1, g2, kp3, kos, hto2, hol, hO⟩ := H3.out
  have h5 := h4.setCell (b := w.heap.size + 1) (o := 0) (Or.inl (Or.inr ⟨by omega, by omega⟩)) (by omega) (by omega) (by omega) (.int .i64 0)
  have q0 : (w4.setCell ⟨w.heap.size + 1, 0, none⟩ (.int .i64 0)).cell? ⟨w.heap.size, 0, none⟩ = some (PV ps) := (World.cell?_of_block (heap_setCell_ne (show w.heap.size ≠ w.heap.size + 1 by omega))).trans hQ.1
  have q2 : (w4.setCell ⟨w.heap.size + 1, 0, none⟩ (.int .i64 0)).cell? ⟨w2.heap.size, 0, none⟩ = some (.int .i64 ad) := (World.cell?_of_block (heap_setCell_ne (show w2.heap.size ≠ w.heap.size + 1 by omega))).trans hQ.2.2
  have q1 : (w4.setCell ⟨w.heap.size + 1, 0, none⟩ (.int .i64 0)).cell? ⟨w.heap.size + 1, 0, none⟩ = some (.int .i64 0) := World.cell?_setCell_same' _ _ _ (by rw [e4]; rfl)
  have q1f : (w4.setCell ⟨w.heap.size + 1, 0, none⟩ (.int .i64 0)).frozen? ⟨w.heap.size + 1, 0, none⟩ = false := by rw [World.frozen?_setCell]; exact f4
  have q3 := h5.cells.2.2.1
  have k5 : ∀ k, k < w.heap.size → k ≠ pt → v.ownBlock ≠ some k → (w4.setCell ⟨w.heap.size + 1, 0, none⟩ (.int .i64 0)).heap[k]? = W3.heap[k]? := fun k h1 h2 h3 => by
   rw [heap_setCell_ne (by omega)]; exact k4.block k ⟨by omega, h2, h3⟩
  have s5 : W3.heap.size ≤ (w4.setCell ⟨w.heap.size + 1, 0, none⟩ (.int .i64 0)).heap.size := by rw [size_setCell]; exact k4.size
  have o5 : (w4.setCell ⟨w.heap.size + 1, 0, none⟩ (.int .i64 0)).os = W3.os ∧ (w4.setCell ⟨w.heap.size + 1, 0, none⟩ (.int .i64 0)).tape = W3.tape ∧ (w4.setCell ⟨w.heap.size + 1, 0, none⟩ (.int .i64 0)).output = W3.output := ⟨k4.os, k4.tape, k4.output⟩
  generalize w4.setCell ⟨w.heap.size + 1, 0, none⟩ (.int .i64 0) = W5 at *
  have H5 := kq6 h5 k5 s5 o5 z3 hol
  clear h3 z3 g0 g1 g2 kp3 kos hto2 hol hO h5 k5 s5 o5 hQ e4 f4 h4 k4 d0 d1 d2 fr1 d4
  go_wp2_with fail
  refine wp_region_quiet_tail (C := fun w' => ∃ q : Nat, w' = (W5).drewN q) 6 (by kernel_rfl) (by kernel_rfl) ⟨1, rfl⟩ ?_
  simp only [List.take_succ_cons, List.take_zero, List.drop_succ_cons, List.drop_zero]
  repeat (first | go_big_quiet_skip | (go_big_quiet_want; go_big_quiet_op; first | go_big_quiet_on))
  refine wpQuiet_nil ?_
  rintro _ ⟨q, rfl⟩
  have hwr := ((H5.out.1.below (w' := W5.drewN q) ⟨rfl, rfl, rfl, Nat.le_refl _, fun _ _ => rfl⟩).heap.write' ad hh (ai := ad) (xi := hh) (by omega) H5.out.2.2.2.2.2 rfl rfl)
  go_wp2_with fail
  refine hwr.mono ?_
  rintro e w6 ⟨rfl, hA6, k6⟩
  have h6 := (H5.out.1.below (w' := W5.drewN q) ⟨rfl, rfl, rfl, Nat.le_refl _, fun _ _ => rfl⟩).arena hA6 k6
  have y0 : ∀ k, w.heap.size ≤ k → k < w.heap.size + 2 → w6.heap[k]? = W5.heap[k]? := fun k h1 h2 => k6.block k (Or.inl (Or.inl (Or.inr ⟨h1, by omega⟩)))
  have y2 : w6.heap[w2.heap.size]? = W5.heap[w2.heap.size]? := k6.block _ (Or.inl (Or.inr ⟨Nat.le_refl _, by omega⟩))
  have y00 := y0 w.heap.size (Nat.le_refl _) (by omega)
  have y01 := y0 (w.heap.size + 1) (by omega) (by omega)
  have u0 : w6.cell? ⟨w.heap.size, 0, none⟩ = some (PV ps) := (World.cell?_of_block y00).trans q0
  have u1 : w6.cell? ⟨w.heap.size + 1, 0, none⟩ = some (.int .i64 0) := (World.cell?_of_block y01).trans q1
  have u1f : w6.frozen? ⟨w.heap.size + 1, 0, none⟩ = false := (World.frozen?_of_block y01).trans q1f
  have u2 : w6.cell? ⟨w2.heap.size, 0, none⟩ = some (.int .i64 ad) := (World.cell?_of_block y2).trans q2
  have u3 := h6.cells.2.2.1
  have H6 := kq2 h6 k6
  clear h6 k6 hA6 hwr y0 y00 y01 y2 q0 q1 q1f q2 q3
  go_wp2_with fail
  refine wp_region_quiet_tail (C := fun w' => ∃ q : Nat, w' = (w6).drewN q) 8 (by kernel_rfl) (by kernel_rfl) ⟨1, rfl⟩ ?_
  simp only [List.take_succ_cons, List.take_zero, List.drop_succ_cons, List.drop_zero]
  repeat (first | go_big_quiet_skip | (go_big_quiet_want; go_big_quiet_op; first | go_big_quiet_on))
  refine wpQuiet_nil ?_
  rintro _ ⟨q, rfl⟩
  have hwr := ((H6.out.1.below (w' := w6.drewN q) ⟨rfl, rfl, rfl, Nat.le_refl _, fun _ _ => rfl⟩).heap.write' (ad + 1) n (ai := (ad : Int) + 1) (xi := n) (by omega) (by omega) (by omega) rfl)
  go_wp2_with fail
  refine hwr.mono ?_
  rintro e w7 ⟨rfl, hA7, k7⟩
  have h7 := (H6.out.1.below (w' := w6.drewN q) ⟨rfl, rfl, rfl, Nat.le_refl _, fun _ _ => rfl⟩).arena hA7 k7
  have y1 : w7.heap[w.heap.size + 1]? = w6.heap[w.heap.size + 1]? := k7.block _ (Or.inl (Or.inl (Or.inr ⟨by omega, by omega⟩)))
  have v1 : w7.cell? ⟨w.heap.size + 1, 0, none⟩ = some (.int .i64 0) := (World.cell?_of_block y1).trans u1
  have v1f : w7.frozen? ⟨w.heap.size + 1, 0, none⟩ = false := (World.frozen?_of_block y1).trans u1f
  have H7 := kq2 h7 k7
  clear h7 k7 hA7 hwr y1 u0 u1 u1f u2 u3
  go_wp2_with fail
  refine leaves_cons (f := 92) (args := #[PV (w.heap.size + 1), PV w.heap.size, PV w2.heap.size]) (by simp) (by simp [go_sem]) ?_
  refine (make_door (w := w7.setCell ⟨w.heap.size + 1, 0, none⟩ (.int .i64 0)) (World.cell?_setCell_same' _ _ _ (by rw [v1]; rfl))).mono ?_
  rintro e u' w'' ⟨rfl, rfl, rfl⟩
  have x1 : (w7.setCell ⟨w.heap.size + 1, 0, none⟩ (.int .i64 0)).cell? ⟨w.heap.size + 1, 0, none⟩ = some (.int .i64 0) := World.cell?_setCell_same' _ _ _ (by rw [v1]; rfl)
  obtain ⟨_, _, h1, h, hb1, _, _, hR, _⟩ := HG.out
  obtain ⟨_, hsz2, _, _, hk2⟩ := H2.out
  obtain ⟨_, _, _, _, _, kp3, kos, _, _, hO⟩ := H3.out
  obtain ⟨_, k5, s5, o5, _, _⟩ := H5.out
  obtain ⟨_, k6⟩ := H6.out
  obtain ⟨h7, k7⟩ := H7.out
  rw [hO] at hR
  obtain rfl : R = ((hh, 0), ⟨(a1.wr ad hh).wr (ad + 1) n, t1⟩) := hR
  have k6s := k6.size
  have k7s := k7.size
  simp only [drewN_heap] at k6s k7s
  refine ⟨.tuple #[.int .u64 hh, .int .i64 0], ?_, rfl, ⟨_, _, _, _, _, (h7.setCell (b := w.heap.size + 1) (o := 0) (Or.inl (Or.inr ⟨by omega, by omega⟩)) (by omega) (by omega) (by omega) (.int .i64 0)).mono fun k hk => Or.inl (Or.inl hk)⟩, ?_⟩
  · simp [results, Tryz.f68, go_sem, x1]
  · refine ⟨k7.os.trans (k6.os.trans (o5.1.trans (kos.1.trans (hk2.os.trans hb1.os)))), k7.tape.trans (k6.tape.trans (o5.2.1.trans (kos.2.1.trans (hk2.tape.trans hb1.tape)))), k7.output.trans (k6.output.trans (o5.2.2.trans (kos.2.2.trans (hk2.output.trans hb1.output)))), ?_, fun k hk => ?_⟩
    · rw [size_setCell]; omega
    · have hk0 := h.yl k hk
      have hkf := h.off k (Or.inl hk)
      rw [heap_setCell_ne (by omega)]
      refine (k7.block k (Or.inl (Or.inl (Or.inl hk)))).trans ((k6.block k (Or.inl (Or.inl (Or.inl hk)))).trans ?_)
      rw [show (W5.drewN _).heap[k]? = W5.heap[k]? from rfl, k5 k hk0 hkf.1 hkf.2, kp3 k (by omega) (by omega), hk2.block k (Or.inl (Or.inl hk)), hb1.block k hk0]
end Go.Proofs.YtcibkdbpicledaaGreatDoor
namespace Go.Proofs.YtcibkdbpicledaaGreatDoor
open Lf
theorem lookup_map_set (p i x : Nat) : ∀ (l : List (Nat × Page)) (q : Nat), (l.map fun y => if y.1 = p then (y.1, y.2.set i x) else y).lookup q = (l.lookup q).map fun t => if q = p then t.set i x else t
 | [], q => rfl
 | (a, t) :: l, q => by
  have ih := lookup_map_set p i x l q
  by_cases h2 : a = p
  · have e : ((a, t) :: l).map (fun y => if y.1 = p then (y.1, y.2.set i x) else y) = (a, t.set i x) :: l.map (fun y => if y.1 = p then (y.1, y.2.set i x) else y) := by simp [h2]
    rw [e, List.lookup_cons, List.lookup_cons]
    by_cases h1 : q = a
    · simp [h1, h2]
    · have h1' : (q == a) = false := by simpa using h1
      simp only [h1']
      exact ih
  · have e : ((a, t) :: l).map (fun y => if y.1 = p then (y.1, y.2.set i x) else y) = (a, t) :: l.map (fun y => if y.1 = p then (y.1, y.2.set i x) else y) := by simp [h2]
    rw [e, List.lookup_cons, List.lookup_cons]
    by_cases h1 : q = a
    · simp [h1, h2]
    · have h1' : (q == a) = false := by simpa using h1
      simp only [h1']
      exact ih
theorem Lf.Slab.page?_wr (s : Slab) (a x q : Nat) : (s.wr a x).page? q = (s.page? q).map fun t => if q = a / 64 then t.set (a % 64) x else t := lookup_map_set (a / 64) (a % 64) x s.pages q
theorem Lf.Slab.rd_wr_ne (s : Slab) (a x b : Nat) (h : b ≠ a) : (s.wr a x).rd b = s.rd b := by
 unfold Slab.rd
 rw [Slab.page?_wr]
 cases s.page? (b / 64) with
 | none => rfl
 | some t =>
  simp only [Option.map_some]
  by_cases e : b / 64 = a / 64
  · rw [if_pos e]
    have : a % 64 ≠ b % 64 := by omega
    simp [List.getD_eq_getElem?_getD, List.getElem?_set_ne this]
  · rw [if_neg e]
theorem Lf.St.place_some {S : St} {h k p : Nat} (hp : S.place h k = (p, 0)) : ∃ j, S.t.of h = some j ∧ ∃ hj : j < S.t.slots.length, p = S.t.slots[j].addr + 2 + k ∧ k < S.a.rd (S.t.slots[j].addr + 1) ∧ S.t.slots[j].is = 1 := by
 cases hk : S.t.of h with
 | none =>
  unfold St.place at hp
  rw [St.at_none hk] at hp
  simp at hp
 | some j =>
  obtain ⟨hj, h1, _⟩ := Tab.of_lt hk
  refine ⟨j, rfl, hj, ?_⟩
  unfold St.place at hp
  rw [St.at_some hk hj] at hp
  simp only at hp
  split at hp
  · rename_i hlt
    simp only [Prod.mk.injEq, and_true] at hp
    exact ⟨hp.symm, hlt, h1⟩
  · simp at hp
theorem Inv.place_ne {S : St} (hi : Inv S) {h k p : Nat} (hp : S.place h k = (p, 0)) (i : Nat) (hl : i < S.t.slots.length) (h1 : S.t.slots[i].is = 1) : S.t.slots[i].addr + 1 ≠ p := by
 obtain ⟨j, _, hj, rfl, hk, h2⟩ := St.place_some hp
 by_cases e : i = j
 · subst e; omega
 · have := hi.apart i j hl hj e h1 h2
   omega
theorem Inv.put {S : St} (hi : Inv S) (h k x : Nat) : Inv (S.put h k x).2 := by
 rw [St.put_place]
 rcases S.place_cases h k with ⟨p, hp⟩ | ⟨e, hp⟩
 · rw [hp]
   have key : ∀ (i : Nat) (hl : i < S.t.slots.length), S.t.slots[i].is = 1 → (S.a.wr p x).rd (S.t.slots[i].addr + 1) = S.a.rd (S.t.slots[i].addr + 1) := fun i hl h1 => Slab.rd_wr_ne _ _ _ _ (hi.place_ne hp i hl h1)
   refine ⟨fun i hl h1 => ?_, fun i j hl hj hne h1 h2 => ?_⟩
   · have h1' : S.t.slots[i].is = 1 := h1
     show (S.a.wr p x).rd (S.t.slots[i].addr + 1) ≤ 3998 ∧ _
     rw [key i hl h1']
     exact hi.len i hl h1'
   · show S.t.slots[i].addr + 2 + (S.a.wr p x).rd (S.t.slots[i].addr + 1) ≤ S.t.slots[j].addr ∨ S.t.slots[j].addr + 2 + (S.a.wr p x).rd (S.t.slots[j].addr + 1) ≤ S.t.slots[i].addr
     rw [key i hl h1, key j hj h2]
     exact hi.apart i j hl hj hne h1 h2
 · rw [hp]; exact hi
theorem put_t (S : St) (h k x : Nat) : (S.put h k x).2.t = S.t := by
 rw [St.put_place]
 rcases S.place_cases h k with ⟨p, hp⟩ | ⟨e, hp⟩ <;> · rw [hp]; rfl
theorem Inv.put_at {S : St} (hi : Inv S) (h k x h' : Nat) : (S.put h k x).2.at h' = S.at h' := by
 cases hk : S.t.of h' with
 | none => rw [St.at_none hk, St.at_none (by rw [put_t]; exact hk)]
 | some j =>
  obtain ⟨hj, h1, _⟩ := Tab.of_lt hk
  rw [St.at_some hk hj]
  rw [St.put_place]
  rcases S.place_cases h k with ⟨p, hp⟩ | ⟨e, hp⟩
  · rw [hp]
    refine (St.at_some (S := { S with a := S.a.wr p x }) (h := h') hk hj).trans ?_
    show (S.t.slots[j].addr, (S.a.wr p x).rd (S.t.slots[j].addr + 1), 0) = _
    rw [Slab.rd_wr_ne _ _ _ _ (hi.place_ne hp j hj h1)]
  · rw [hp]; exact St.at_some hk hj
theorem putWords_inv (h : Nat) : ∀ (l : List Nat) (S : St) (k : Nat), Inv S → Inv (putWords S h k l) ∧ (∀ h', (putWords S h k l).at h' = S.at h') ∧ (putWords S h k l).t = S.t
 | [], S, k, hi => ⟨hi, fun _ => rfl, rfl⟩
 | x :: r, S, k, hi => by
  obtain ⟨h1, h2, h3⟩ := putWords_inv h r (S.put h k x).2 (k + 1) (hi.put h k x)
  exact ⟨h1, fun h' => (h2 h').trans (hi.put_at h k x h'), h3.trans (put_t S h k x)⟩
theorem at_zero (S : St) : S.at 0 = (0, 0, 7) := St.at_none (by rfl)
theorem len_zero (S : St) : S.len 0 = (0, 7) := by unfold St.len; rw [at_zero]
end Go.Proofs.YtcibkdbpicledaaGreatDoor
namespace Go.Proofs.YtcibkdbpicledaaGreatDoor.Lf
def byteAt (l : List UInt8) (i : Nat) : Nat := (l.getD i 0).toNat
theorem byteAt_lt (l : List UInt8) (i : Nat) : byteAt l i < 256 := (l.getD i 0).toNat_lt
def part (l : List UInt8) (j : Nat) : Nat → Nat
 | 0 => 0
 | r + 1 => part l j r * 256 + byteAt l (8 * j + r)
theorem part_lt (l : List UInt8) (j : Nat) : ∀ r, part l j r < 256 ^ r
 | 0 => by simp [part]
 | r + 1 => by
  have := part_lt l j r
  have := byteAt_lt l (8 * j + r)
  simp only [part, Nat.pow_succ]
  omega
theorem chunk_eq (l : List UInt8) (j : Nat) : chunk (l.drop (8 * j)) = part l j 8 := by
 have h : ∀ q, (l.drop (8 * j)).getD q 0 = l.getD (8 * j + q) 0 := fun q => by
  simp [List.getD_eq_getElem?_getD, List.getElem?_drop]
 simp only [chunk, show List.range 8 = [0, 1, 2, 3, 4, 5, 6, 7] from rfl, List.foldl_cons, List.foldl_nil, h]
 simp [part, byteAt]
def cell (l : List UInt8) (j r : Nat) : Nat := part l j r * 256 ^ (8 - r)
theorem cell_lt (l : List UInt8) (j r : Nat) (h : r ≤ 8) : cell l j r < 18446744073709551616 := by
 have h1 := part_lt l j r
 have h2 : 256 ^ r * 256 ^ (8 - r) = 18446744073709551616 := by rw [← Nat.pow_add, show r + (8 - r) = 8 by omega]
 have h3 : 0 < 256 ^ (8 - r) := Nat.pow_pos (by decide)
 unfold cell
 rw [← h2]
 exact Nat.mul_lt_mul_of_pos_right h1 h3
theorem cell_succ (l : List UInt8) (j r : Nat) (h : r < 8) : cell l j (r + 1) = cell l j r + byteAt l (8 * j + r) * 2 ^ (8 * (7 - r)) := by
 have e : 256 ^ (8 - r) = 256 * 256 ^ (7 - r) := by rw [show 8 - r = (7 - r) + 1 by omega, Nat.pow_succ, Nat.mul_comm]
 have e2 : 2 ^ (8 * (7 - r)) = 256 ^ (7 - r) := by rw [Nat.pow_mul]
 unfold cell
 rw [e, e2, show 8 - (r + 1) = 7 - r by omega]
 simp only [part, Nat.add_mul, Nat.mul_assoc]
theorem cell_or (l : List UInt8) (j r : Nat) (h : r < 8) : cell l j r ||| byteAt l (8 * j + r) * 2 ^ (8 * (7 - r)) = cell l j (r + 1) := by
 have e : cell l j r = part l j r <<< (8 * (8 - r)) := by
  rw [Nat.shiftLeft_eq, Nat.pow_mul]; rfl
 have h1 : byteAt l (8 * j + r) * 2 ^ (8 * (7 - r)) < 2 ^ (8 * (8 - r)) := by
  rw [show 8 * (8 - r) = 8 + 8 * (7 - r) by omega, Nat.pow_add]
  exact Nat.mul_lt_mul_of_pos_right (byteAt_lt _ _) (Nat.pow_pos (by decide))
 rw [cell_succ l j r h, e]
 exact (Nat.shiftLeft_add_eq_or_of_lt h1 _).symm
theorem cell_zero (l : List UInt8) (j : Nat) : cell l j 0 = 0 := by simp [cell, part]
theorem byteAt_ge (l : List UInt8) (i : Nat) (h : l.length ≤ i) : byteAt l i = 0 := by
 simp [byteAt, List.getD_eq_getElem?_getD, List.getElem?_eq_none h]
theorem cell_full (l : List UInt8) (j r : Nat) (h : l.length ≤ 8 * j + r) : ∀ d, r + d ≤ 8 → cell l j (r + d) = cell l j r
 | 0, _ => rfl
 | d + 1, hd => by
  have := cell_succ l j (r + d) (by omega)
  rw [byteAt_ge l _ (by omega), Nat.zero_mul, Nat.add_zero] at this
  rw [← Nat.add_assoc, this]
  exact cell_full l j r h d (by omega)
theorem cell_8 (l : List UInt8) (j : Nat) : cell l j 8 = chunk (l.drop (8 * j)) := by rw [chunk_eq]; simp [cell]
def laid (l : List UInt8) (i : Nat) : List Nat := l.length :: (List.range ((l.length + 7) / 8)).map fun j => cell l j (min 8 (i - 8 * j))
theorem laid_length (l : List UInt8) (i : Nat) : (laid l i).length = 1 + (l.length + 7) / 8 := by simp [laid]; omega
theorem laid_zero (l : List UInt8) : laid l 0 = l.length :: List.replicate ((l.length + 7) / 8) 0 := by
 unfold laid
 congr 1
 apply List.ext_getElem (by simp)
 intro n h1 h2
 simp [cell_zero]
theorem laid_full (l : List UInt8) : laid l l.length = wordsOf l := by
 unfold laid wordsOf chunks
 congr 1
 apply List.map_congr_left
 intro j hj
 rw [← cell_8]
 by_cases h : 8 * j + 8 ≤ l.length
 · rw [Nat.min_eq_left (by omega)]
 · rw [Nat.min_eq_right (by omega)]
   have := cell_full l j (l.length - 8 * j) (by omega) (8 - (l.length - 8 * j)) (by omega)
   rw [← this]
   congr 1
   omega
theorem laid_at (l : List UInt8) (i : Nat) (h : i < l.length) : (laid l i)[1 + i / 8]? = some (cell l (i / 8) (i % 8)) := by
 unfold laid
 rw [Nat.add_comm 1, List.getElem?_cons_succ, List.getElem?_map, List.getElem?_range (by omega)]
 simp only [Option.map_some, Option.some.injEq]
 congr 1
 omega
theorem laid_succ (l : List UInt8) (i : Nat) : laid l (i + 1) = (laid l i).set (1 + i / 8) (cell l (i / 8) (i % 8 + 1)) := by
 unfold laid
 rw [Nat.add_comm 1, List.set_cons_succ]
 congr 1
 apply List.ext_getElem (by simp)
 intro n h1 h2
 rw [List.getElem_set]
 simp only [List.getElem_map, List.getElem_range]
 by_cases e : i / 8 = n
 · rw [if_pos e]
   subst e
   congr 1
   omega
 · rw [if_neg e]
   congr 1
   omega
theorem laid_lt (l : List UInt8) (i : Nat) (hl : l.length < 18446744073709551616) : ∀ x ∈ laid l i, x < 18446744073709551616 := by
 intro x hx
 unfold laid at hx
 rcases List.mem_cons.1 hx with rfl | hx
 · exact hl
 · obtain ⟨j, _, rfl⟩ := List.mem_map.1 hx
   exact cell_lt _ _ _ (Nat.min_le_left _ _)
theorem wordsOf_length (l : List UInt8) : (wordsOf l).length = 1 + (l.length + 7) / 8 := by rw [← laid_full, laid_length]
theorem wordsOf_many (l : List UInt8) (h : l.length ≤ 1000) : (wordsOf l).length = many l.length := by
 rw [wordsOf_length]
 unfold many
 rw [if_neg (by omega)]
theorem wordsOf_lt (l : List UInt8) (hl : l.length < 18446744073709551616) : ∀ x ∈ wordsOf l, x < 18446744073709551616 := by rw [← laid_full]; exact laid_lt l _ hl
theorem wordsOf_at (l : List UInt8) (i : Nat) (h : i < l.length) : (wordsOf l)[1 + i / 8]? = some (cell l (i / 8) 8) := by
 unfold wordsOf chunks
 rw [Nat.add_comm 1, List.getElem?_cons_succ, List.getElem?_map, List.getElem?_range (by omega)]
 simp only [Option.map_some, Option.some.injEq]
 exact (cell_8 _ _).symm
theorem cell_byte (l : List UInt8) (j : Nat) : ∀ d r, r + d = 7 → cell l j 8 / 2 ^ (8 * d) % 256 = byteAt l (8 * j + r) := by
 intro d r hr
 have key : ∀ k, k ≤ 8 - (r + 1) → part l j (r + 1 + k) / 256 ^ k = part l j (r + 1) := by
  intro k
  induction k with
  | zero => intro _; simp
  | succ k ih =>
   intro hk
   rw [show r + 1 + (k + 1) = (r + 1 + k) + 1 by omega]
   simp only [part]
   rw [Nat.pow_succ, Nat.mul_comm (256 ^ k), ← Nat.div_div_eq_div_mul]
   have hb := byteAt_lt l (8 * j + (r + 1 + k))
   rw [show (part l j (r + 1 + k) * 256 + byteAt l (8 * j + (r + 1 + k))) / 256 = part l j (r + 1 + k) by omega]
   exact ih (by omega)
 have h1 := key d (by omega)
 have e : cell l j 8 = part l j 8 := by simp [cell]
 have e8 : part l j 8 = part l j (r + 1 + d) := by rw [show r + 1 + d = 8 by omega]
 rw [e, Nat.pow_mul, show (2 : Nat) ^ 8 = 256 from rfl, e8, h1]
 simp only [part]
 have hb := byteAt_lt l (8 * j + r)
 omega
theorem bytesOf_wordsOf (l : List UInt8) : bytesOf (wordsOf l) l.length = l := by
 unfold bytesOf
 apply List.ext_getElem (by simp)
 intro i h1 h2
 simp only [List.getElem_map, List.getElem_range]
 rw [List.getD_eq_getElem?_getD, wordsOf_at l i h2]
 simp only [Option.getD_some]
 have h := cell_byte l (i / 8) (7 - i % 8) (i % 8) (by omega)
 rw [show 8 * (i / 8) + i % 8 = i by omega, Nat.pow_mul, show (2 : Nat) ^ 8 = 256 from rfl] at h
 apply UInt8.toNat_inj.1
 rw [UInt8.toNat_ofNat']
 rw [show (2 : Nat) ^ 8 = 256 from rfl, h]
 simp [byteAt, List.getD_eq_getElem?_getD, List.getElem?_eq_getElem h2]
theorem textOf_wordsOf (l : List UInt8) (h : l.length ≤ 1000) : textOf (wordsOf l) = some l := by
 have h1 := wordsOf_many l h
 have h2 := bytesOf_wordsOf l
 have e : ∃ r, wordsOf l = l.length :: r := ⟨_, rfl⟩
 obtain ⟨r, e⟩ := e
 rw [e] at h1 h2 ⊢
 unfold textOf
 simp only
 rw [if_neg (by omega), h2, ← e, if_pos rfl]
theorem textOf_some {ws : List Nat} {l : List UInt8} (h : textOf ws = some l) : l.length ≤ 1000 ∧ ws = wordsOf l := by
 unfold textOf at h
 split at h
 · cases h
 · rename_i n r
   split at h
   · cases h
   · rename_i hn
     split at h
     · rename_i hw
       injection h with h
       have hl : l.length = n := by rw [← h]; simp [bytesOf]
       rw [h] at hw
       exact ⟨by omega, hw.symm⟩
     · cases h
end Go.Proofs.YtcibkdbpicledaaGreatDoor.Lf
namespace Go.Proofs.YtcibkdbpicledaaGreatDoor
open Go.RowKit Go.BigFrame Go.Maps Go.WideMaps Lf
theorem text_many (n : Nat) (w : World) (hn : n ≤ 1099511627776) :
 Calls Tryz.prog 69 #[.int .i64 n] w fun e w' => e = .returned (.int .i64 (many n : Nat)) ∧ w = w' := by
 unfold many
 by_cases h : 1000 < n
 · rw [if_pos h]
   have h' : (1000 : Int) < n := by omega
   go_enter Tryz.func69, Tryz.ntmps69
   go_wp2
   go_ret
   exact ⟨rfl, rfl⟩
 · rw [if_neg h]
   have h' : (n : Int) ≤ 1000 := by omega
   have hq : ((1 + (n + 7) / 8 : Nat) : Int) = 1 + ((n : Int) + 7) / 8 := by omega
   rw [hq]
   clear h hq
   go_enter Tryz.func69, Tryz.ntmps69
   go_wp2
   go_ret
   exact ⟨by simp; omega, rfl⟩
theorem text_lay {w : World} {B G m cap i c x y : Nat} (hb : w.cell? ⟨B, 0, none⟩ = some (.slice (some ⟨G, 0, none⟩) m cap)) (hi : 1 + i / 8 < m) (hm : m ≤ 200)
 (hx : w.cell? ⟨G, 1 + i / 8, none⟩ = some (.int .u64 x)) (hf : w.frozen? ⟨G, 1 + i / 8, none⟩ = false) (hxl : x < 18446744073709551616) (hc : c < 256) (hy : x ||| c * 2 ^ (8 * (7 - i % 8)) = y) :
 Calls Tryz.prog 125 #[.int .i64 i, .int .u8 c, PV B] w fun e w' => e = .returned (.tuple #[]) ∧ ∃ q, w' = (w.drewN q).setCell ⟨G, 1 + i / 8, none⟩ (.int .u64 y) := by
 obtain ⟨q, hq⟩ : ∃ q, i / 8 = q := ⟨_, rfl⟩
 obtain ⟨r, hr⟩ : ∃ r, i % 8 = r := ⟨_, rfl⟩
 have hr8 : r < 8 := by omega
 obtain ⟨s, hs⟩ : ∃ s, 8 * (7 - r) = s := ⟨_, rfl⟩
 rw [hq] at hi hx hf ⊢
 rw [hr, hs] at hy
 have hq' : (i : Int) / 8 = (q : Int) := by omega
 have hr' : (i : Int) % 8 = (r : Int) := by omega
 have hs' : 8 * (7 - (r : Int)) = (s : Int) := by omega
 have hi9 : i < 9223372036854775807 := by omega
 go_enter Tryz.func125, Tryz.ntmps125
 go_wp2_with fail
 refine wp_region_quiet_tail (C := fun w' => ∃ q : Nat, w' = (w).drewN q) 15 (by kernel_rfl) (by kernel_rfl) ⟨1, rfl⟩ ?_
 simp only [List.take_succ_cons, List.take_zero, List.drop_succ_cons, List.drop_zero]
 repeat (first | go_big_quiet_skip | (go_big_quiet_want; go_big_quiet_op; first | go_big_quiet_on))
 refine wpQuiet_nil ?_
 rintro _ ⟨q, rfl⟩
 go_wp2_with fail
 have hw : IntKind.u64.wrap ((c : Int) * 2 ^ s) = ((c * 2 ^ s : Nat) : Int) := by
  have h1 : c * 2 ^ s < 256 * 2 ^ 56 := Nat.lt_of_lt_of_le (Nat.mul_lt_mul_of_pos_right hc (Nat.pow_pos (by decide))) (Nat.mul_le_mul_left _ (Nat.pow_le_pow_right (by decide) (by omega)))
  have h2 : ((c : Int) * 2 ^ s) = ((c * 2 ^ s : Nat) : Int) := by push_cast; rfl
  rw [h2]
  show ((c * 2 ^ s : Nat) : Int) % 18446744073709551616 = _
  omega
 have h1 : c * 2 ^ s < 18446744073709551616 := Nat.lt_of_lt_of_le (Nat.mul_lt_mul_of_pos_right hc (Nat.pow_pos (by decide))) (Nat.mul_le_mul_left 256 (Nat.pow_le_pow_right (n := 2) (by decide) (show s ≤ 56 by omega)))
 rw [hw, bits_or_u64_nat _ _ hxl h1, hy]
 go_end0
 exact ⟨rfl, _, rfl⟩
def RowU (w : World) (B : Nat) (v : Value) (ws : List Nat) : Prop := ∃ G c, v = .slice (some ⟨G, 0, none⟩) ws.length c ∧ B ≤ G ∧ ∀ (i : Nat) (h : i < ws.length), w.cell? ⟨G, i, none⟩ = some (.int .u64 (ws[i] : Nat))
theorem RowU.below {w w' : World} {B : Nat} {v : Value} {ws : List Nat} (h : RowU w B v ws) (hb : Below w.heap.size w w') : RowU w' B v ws := by
 obtain ⟨G, c, rfl, hB, hc⟩ := h
 refine ⟨G, c, rfl, hB, fun i hi => ?_⟩
 have h1 := hc i hi
 have hlt : G < w.heap.size := by
  unfold World.cell? at h1
  split at h1
  · rename_i heq; exact (gl heq)
  · cases h1
 exact (hb.cell (p := ⟨G, i, none⟩) hlt).trans h1
theorem words_equal {w : World} {B B' : Nat} {v v' : Value} {ws : List Nat} (h : RowU w B v ws) (h' : RowU w B' v' ws) (hl : ws.length ≤ 100000) :
 Calls Tryz.prog 124 #[v, v'] w fun e w' => e = .returned (.bool true) ∧ ∃ q, w' = w.drewN q := by
 obtain ⟨G, c, rfl, _, hc⟩ := h
 obtain ⟨G', c', rfl, _, hc'⟩ := h'
 obtain ⟨n, hn⟩ : ∃ n, ws.length = n := ⟨_, rfl⟩
 rw [hn] at hl
 have H := kq3 hc hc' hn
 rw [hn]
 clear hc hc' hn
 go_enter Tryz.func124, Tryz.ntmps124
 go_wp2_with fail
 go_loopw [13] (fun i wr => ∃ k : Nat, k ≤ n ∧ i = .int .i64 k ∧ ∃ q, wr = w.drewN q) (fun i _ => n - (intOf i).toNat)
 case atStart => exact ⟨0, by omega, rfl, 0, rfl⟩
 case round =>
  obtain ⟨k, hk, rfl, q, rfl⟩ := hrel
  by_cases hlt : k < n
  · have hlt' : (k : Int) < n := by omega
    have c1 := H.out.1 k (by rw [H.out.2.2]; exact hlt)
    have c2 := H.out.2.1 k (by rw [H.out.2.2]; exact hlt)
    generalize ws[k]'(by rw [H.out.2.2]; exact hlt) = x at c1 c2
    go_wp2_with fail
    go_quiet (fail)
    go_wp2_with fail
    go_roundw
    case rel => exact ⟨k + 1, by omega, by simp, _, rfl⟩
    case measure => simp [intOf]; omega
  · obtain rfl : k = n := by omega
    go_wp2_with fail
    go_ret
    exact ⟨rfl, _, rfl⟩
end Go.Proofs.YtcibkdbpicledaaGreatDoor
namespace Go.Proofs.YtcibkdbpicledaaGreatDoor
open Go.RowKit Go.BigFrame Go.Maps Go.WideMaps Lf
abbrev SV (l : List UInt8) : Value := .string ⟨l.toArray⟩
theorem infoU64 : (Tryz.prog.info? 82).map (fun i => (i.zero, i.size, i.bytes)) = some (some (.int .u64 0), 1, 8) := by kernel_rfl
theorem make_words (n : Nat) (hn : n ≤ 1000000) (W : World) : (Instr.makeSlice 162 (.int .i64 (n : Int)) (.int .i64 (n : Int))).run Tryz.prog W = .ok (.slice (some ⟨W.heap.size, 0, none⟩) n n) (W.alloc (.cells ((List.replicate n 0).map fun x : Nat => Value.int .u64 x).toArray 82)) := by
 obtain ⟨i0, hi, hz0, hz1, hz2⟩ := info_parts infoU64
 have e : ((List.replicate n 0).map fun x : Nat => Value.int .u64 x).toArray = madeCells #[.int .u64 0] n := by
  apply Array.toList_inj.1
  rw [toList_madeCells_one]
  simp
 rw [e]
 exact run_make_row 162 82 i0 (.int .u64 0) Tryz.underlying162 hi hz0 hz1 rfl .i64 .i64 n (by rw [hz2]; omega) (by omega) W
theorem bytesOf_string (l : List UInt8) : ∃ (capF : World → Nat) (csF : World → Array Value) (frF : World → Nat × Nat), (∀ W, (convert 9 49 (SV l)).run Tryz.prog W = .ok (.slice (some ⟨W.heap.size, 0, none⟩) l.length (capF W)) (W.drew.alloc (.cells (csF W) 5 (frF W)))) ∧ ∀ W i, i < l.length → (csF W)[i]? = some (.int .u8 (byteAt l i : Nat)) := by
 refine ⟨_, _, _, fun W => run_bytes_of_string W _ _ _ _ Tryz.underlying9 Tryz.underlying49 Tryz.underlying5, ?_⟩
 intro W i hi
 rw [bytesRow_at _ _ _ (by simpa using hi)]
 simp [byteAt, List.getD_eq_getElem?_getD, List.getElem?_eq_getElem hi]
structure WrAt (l : List UInt8) (w : World) (k : Nat) (wr : World) : Prop where
 row : wr.heap[w.heap.size]? = some (.cells ((laid l k).map fun x : Nat => Value.int .u64 x).toArray 82 (0, 0))
 box : wr.cell? ⟨w.heap.size + 1, 0, none⟩ = some (.slice (some ⟨w.heap.size, 0, none⟩) (1 + (l.length + 7) / 8) (1 + (l.length + 7) / 8))
 bytes : ∀ i, i < l.length → wr.cell? ⟨w.heap.size + 2, i, none⟩ = some (.int .u8 (byteAt l i : Nat))
 below : Below w.heap.size w wr
theorem text_words (l : List UInt8) (w : World) (hl : l.length ≤ 1000) :
 Calls Tryz.prog 98 #[SV l] w fun e w' => ∃ v, e = .returned (.tuple #[v, .int .i64 0]) ∧ RowU w' w.heap.size v (wordsOf l) ∧ Below w.heap.size w w' := by
 have hl' : (l.length : Int) ≤ 1000 := by omega
 have hm := fun W => text_many l.length W (by omega)
 have hmv : many l.length = 1 + (l.length + 7) / 8 := by unfold many; rw [if_neg (by omega)]
 rw [hmv] at hm
 obtain ⟨n, hn⟩ : ∃ n, l.length = n := ⟨_, rfl⟩
 obtain ⟨m, hm'⟩ : ∃ m, 1 + (n + 7) / 8 = m := ⟨_, rfl⟩
 have hmm : m ≤ 200 := by omega
 rw [hn, hm'] at hm
 have H := kq3 hm hn hm'
 clear hm hmv hm'
 go_enter Tryz.func98, Tryz.ntmps98
 go_wp2_with fail
 simp only [hn] at hl' ⊢
 clear hn
 refine (H.out.1 _).mono ?_
 rintro e w1 ⟨rfl, rfl⟩
 have hmk := make_words m (by omega)
 obtain ⟨cs0, hcs0⟩ : ∃ cs, ((List.replicate m 0).map fun x : Nat => Value.int .u64 x).toArray = cs := ⟨_, rfl⟩
 rw [hcs0] at hmk
 obtain ⟨capF, csF, frF, hcv, hbs⟩ := bytesOf_string l
 rw [H.out.2.1] at hcv
 have HB := kq2 hcs0 hbs
 clear hcs0 hbs
 have hm0 : (0 : Int) < m := by have := H.out.2.2; omega
 have hsz : 0 < cs0.size := by have := H.out.2.2; rw [← HB.out.1]; simp; omega
 go_wp2_with fail
 go_name_world W HW
 have hW : WrAt l w 0 W := by
  have e1 : ∀ k : Nat, W.heap[k]? = (((w.alloc (.cells (cs0.setIfInBounds 0 (.int .u64 l.length)) 82)).alloc (.cells #[.slice (some ⟨w.heap.size, 0, none⟩) m m] 162)).alloc (.cells (csF ((w.alloc (.cells (cs0.setIfInBounds 0 (.int .u64 l.length)) 82)).alloc (.cells #[.slice (some ⟨w.heap.size, 0, none⟩) m m] 162))) 5 (frF ((w.alloc (.cells (cs0.setIfInBounds 0 (.int .u64 l.length)) 82)).alloc (.cells #[.slice (some ⟨w.heap.size, 0, none⟩) m m] 162))))).heap[k]? := fun k => by rw [← HW]; rfl
  have hB : Below w.heap.size w W := by
   rw [← HW]
   have h3 := (((Below.refl _ w).alloc (Nat.le_refl _) (.cells (cs0.setIfInBounds 0 (.int .u64 l.length)) 82)).alloc (by simp) (.cells #[.slice (some ⟨w.heap.size, 0, none⟩) m m] 162)).alloc (by simp; omega) (.cells (csF ((w.alloc (.cells (cs0.setIfInBounds 0 (.int .u64 l.length)) 82)).alloc (.cells #[.slice (some ⟨w.heap.size, 0, none⟩) m m] 162))) 5 (frF ((w.alloc (.cells (cs0.setIfInBounds 0 (.int .u64 l.length)) 82)).alloc (.cells #[.slice (some ⟨w.heap.size, 0, none⟩) m m] 162))))
   exact ⟨h3.os, h3.tape, h3.output, h3.size, h3.block⟩
  have hmm2 : (l.length + 7) / 8 + 1 = m := by have := H.out.2.1; have := H.out.2.2; omega
  refine ⟨?_, ?_, ?_, hB⟩
  · rw [e1, heap_alloc_old _ _ (by simp; omega), heap_alloc_old _ _ (by simp), heap_alloc_new, laid_zero, ← HB.out.1, ← hmm2]
    simp [List.replicate_succ]
  · have : W.heap[w.heap.size + 1]? = some (.cells #[.slice (some ⟨w.heap.size, 0, none⟩) m m] 162) := by
     rw [e1, heap_alloc_old _ _ (by simp)]
     have := heap_alloc_new (w.alloc (.cells (cs0.setIfInBounds 0 (.int .u64 l.length)) 82)) (.cells #[.slice (some ⟨w.heap.size, 0, none⟩) m m] 162)
     simpa using this
    rw [cell_of_block this, show 1 + (l.length + 7) / 8 = m by omega]
    rfl
  · intro i hi
    have : W.heap[w.heap.size + 2]? = some (.cells (csF ((w.alloc (.cells (cs0.setIfInBounds 0 (.int .u64 l.length)) 82)).alloc (.cells #[.slice (some ⟨w.heap.size, 0, none⟩) m m] 162))) 5 (frF ((w.alloc (.cells (cs0.setIfInBounds 0 (.int .u64 l.length)) 82)).alloc (.cells #[.slice (some ⟨w.heap.size, 0, none⟩) m m] 162)))) := by
     rw [e1]
     have := heap_alloc_new ((w.alloc (.cells (cs0.setIfInBounds 0 (.int .u64 l.length)) 82)).alloc (.cells #[.slice (some ⟨w.heap.size, 0, none⟩) m m] 162)) (.cells (csF ((w.alloc (.cells (cs0.setIfInBounds 0 (.int .u64 l.length)) 82)).alloc (.cells #[.slice (some ⟨w.heap.size, 0, none⟩) m m] 162))) 5 (frF ((w.alloc (.cells (cs0.setIfInBounds 0 (.int .u64 l.length)) 82)).alloc (.cells #[.slice (some ⟨w.heap.size, 0, none⟩) m m] 162))))
     simpa using this
    rw [cell_of_block this]
    exact HB.out.2 _ i hi
 clear HW hmk hcv
 have HA := Lib.hid hW
 clear hW
 go_loopw [6, 7, 24] (fun _ _ i wr => ∃ k : Nat, k ≤ n ∧ i = .int .i64 k ∧ WrAt l w k wr) (fun _ _ i _ => n - (intOf i).toNat)
 case atStart => exact ⟨0, by omega, rfl, HA.out⟩
 case round =>
  obtain ⟨k, hk, rfl, hA⟩ := hrel
  have hnn := H.out.2.1
  have hmm2 := H.out.2.2
  by_cases hlt : k < n
  · have hlt' : (k : Int) < n := by omega
    have c1 := hA.bytes k (by omega)
    have hl8 := laid_at l k (by omega)
    have c2 : wr.cell? ⟨w.heap.size, 1 + k / 8, none⟩ = some (.int .u64 (cell l (k / 8) (k % 8) : Nat)) := by
     rw [cell_of_block hA.row, List.getElem?_toArray, List.getElem?_map, hl8]; rfl
    have hbox := hA.box
    rw [hnn, hmm2] at hbox
    have hlay := fun W' (h1 : W'.heap = wr.heap) => text_lay (w := W') (B := w.heap.size + 1) (G := w.heap.size) (m := m) (cap := m) (i := k) (c := byteAt l k) (x := cell l (k / 8) (k % 8)) (y := cell l (k / 8) (k % 8 + 1))
     (by rw [← hbox]; simp only [World.cell?, h1]) (by omega) hmm (by rw [← c2]; simp only [World.cell?, h1]) (by rw [frozen_of_block (h1 ▸ hA.row)]) (cell_lt _ _ _ (by omega)) (byteAt_lt _ _) (by have := cell_or l (k / 8) (k % 8) (by omega); rwa [show 8 * (k / 8) + k % 8 = k by omega] at this)
    have HK := kq2 hA hlay
    clear hA hlay hbox c2 hl8 hnn hmm2
    go_wp2_with fail
    refine (HK.out.2 _ rfl).mono ?_
    rintro e w2 ⟨rfl, q, rfl⟩
    have HN : WrAt l w (k + 1) ((wr.drewN q).setCell ⟨w.heap.size, 1 + k / 8, none⟩ (.int .u64 (cell l (k / 8) (k % 8 + 1) : Nat))) := by
     have hA := HK.out.1
     have hB : Below w.heap.size w ((wr.drewN q).setCell ⟨w.heap.size, 1 + k / 8, none⟩ (.int .u64 (cell l (k / 8) (k % 8 + 1) : Nat))) := by
      have : Below w.heap.size w (wr.drewN q) := ⟨hA.below.os, hA.below.tape, hA.below.output, hA.below.size, hA.below.block⟩
      exact this.setCell (p := ⟨w.heap.size, 1 + k / 8, none⟩) (Nat.le_refl w.heap.size) _
     refine ⟨?_, ?_, ?_, hB⟩
     · rw [heap_setCell (show (wr.drewN q).heap[w.heap.size]? = _ from hA.row), laid_succ]
       simp
     · rw [← hA.box]
       exact World.cell?_of_block (w := wr.drewN q) (heap_setCell_ne (w := wr.drewN q) (k := w.heap.size + 1) (by omega))
     · intro i hi
       rw [← hA.bytes i hi]
       exact World.cell?_of_block (w := wr.drewN q) (heap_setCell_ne (w := wr.drewN q) (k := w.heap.size + 2) (by omega))
    have HN' := Lib.hid HN
    clear HN
    go_wp2_with fail
    go_roundw
    case rel => exact ⟨k + 1, by omega, by simp, HN'.out⟩
    case measure => simp [intOf]; omega
  · obtain rfl : k = n := by omega
    have hbox := hA.box
    rw [hnn, hmm2] at hbox
    have HK := kq3 hA hmm2 hnn
    clear hA hmm2 hnn
    go_wp2_with fail
    go_ret2
    refine ⟨_, rfl, ⟨w.heap.size, m, ?_, Nat.le_refl _, ?_⟩, HK.out.1.below⟩
    · rw [wordsOf_length, HK.out.2.2, HK.out.2.1]
      rfl
    · intro i hi
      have h := HK.out.1.row
      rw [← HK.out.2.2, laid_full] at h
      rw [cell_of_block h, List.getElem?_toArray, List.getElem?_map, List.getElem?_eq_getElem hi]
      rfl
def MkOk (S : St) (n : Nat) : Prop := (S.t.open (allocH S.a (n + 2)).1.1).1.2 = 0 ∧ Inv (S.make n).2
theorem make_lt {S : St} (hw : TabWF S.t) (n : Nat) : (S.make n).1.1 < 18446744073709551616 := by
 have h := open_lt hw
 unfold St.make
 split
 · simp
 · split
   · rename_i addr a1 _
     have := h addr
     split
     · rename_i hh t1 he
       rw [he] at this
       exact this
     · simp
   · simp
theorem StOn.tabwf {w : World} {ps : Nat} {S : St} {Y : Nat → Prop} (h : StOn w ps S Y) : TabWF S.t := by
 obtain ⟨_, _, _, _, _, h⟩ := h
 exact h.tab.wf
theorem RowU.keep {w w' : World} {B : Nat} {v : Value} {ws : List Nat} {Y : Nat → Prop} (h : RowU w B v ws) (hk : Keep Y w w') (hy : ∀ k, B ≤ k → k < w.heap.size → Y k) : RowU w' B v ws := by
 obtain ⟨G, c, rfl, hB, hc⟩ := h
 refine ⟨G, c, rfl, hB, fun i hi => ?_⟩
 have h1 := hc i hi
 have hlt : G < w.heap.size := by
  unfold World.cell? at h1
  split at h1
  · rename_i heq; exact (gl heq)
  · cases h1
 exact (World.cell?_of_block (hk.block G (hy G hB hlt))).trans h1
theorem blob_put {w : World} {ps : Nat} {S : St} {Y : Nat → Prop} (h : StOn w ps S Y) (hi : Inv S) (l : List UInt8) (hl : l.length ≤ 1000) (hm : MkOk S (many l.length)) :
 Calls Tryz.prog 106 #[PV ps, SV l] w fun e w' => e = .returned (.tuple #[.int .u64 ((putBlob S l).1.1 : Nat), .int .i64 ((putBlob S l).1.2 : Nat)]) ∧ StOn w' ps (putBlob S l).2 Y ∧ Keep Y w w' := by
 have hle := st_len h hi 0 (by omega)
 rw [len_zero] at hle
 have hwo := fun W => text_words l W hl
 have hlen := wordsOf_many l hl
 have hwl := wordsOf_lt l (by omega)
 obtain ⟨R, hR⟩ : ∃ R, putBlob S l = R := ⟨_, rfl⟩
 rw [hR]
 unfold putBlob at hR
 rw [if_neg (by omega)] at hR
 obtain ⟨hm1, hm2⟩ := hm
 have hmk := fun W (hW : StOn W ps S (fun k => Y k ∨ (w.heap.size ≤ k ∧ k < W.heap.size))) => st_make hW (many l.length) (by unfold many; split <;> omega) hm1
 have hmlt := make_lt h.tabwf (many l.length)
 have hml : many l.length ≤ 200 := by unfold many; split <;> omega
 obtain ⟨⟨⟨hh, er⟩, S1⟩, hS⟩ : ∃ r, S.make (many l.length) = r := ⟨_, rfl⟩
 rw [hS] at hmk hmlt hm2 hR
 simp only at hmk hmlt hm2 hR
 rw [← hlen] at hmk hml
 obtain ⟨ws, hws⟩ : ∃ ws, wordsOf l = ws := ⟨_, rfl⟩
 rw [hws] at hwo hmk hml hwl hR
 have HG := kq7 hle hwo hmk hR h hwl hm2
 clear hle hwo hmk hR h hwl hm2 hm1 hS hlen hws hi
 obtain ⟨n, hn⟩ : ∃ n, ws.length = n := ⟨_, rfl⟩
 have HN := Lib.hid hn
 rw [hn] at hml
 clear hn
 go_enter Tryz.func106, Tryz.ntmps106
 go_wp2_with fail
 refine HG.out.1.mono ?_
 rintro e w1 ⟨rfl, rfl⟩
 go_wp2_with fail
 refine (HG.out.2.1 _).mono ?_
 rintro e w2 ⟨v, rfl, hrow, hb⟩
 have hS2 := HG.out.2.2.2.2.1.wide hb
 have H2 := kq3 hrow hb hS2
 have hrow' := hrow
 obtain ⟨G, cp, rfl, _, _⟩ := hrow'
 rw [HN.out] at H2
 simp only [HN.out]
 clear hrow hb hS2
 go_wp2_with fail
 have hmk := HG.out.2.2.1 w2 H2.out.2.2
 rw [HN.out] at hmk
 refine hmk.mono ?_
 rintro e w3 ⟨rfl, h3, k3⟩
 clear hmk
 have hr3 := H2.out.1.keep k3 (fun k h1 h2 => Or.inr ⟨h1, h2⟩)
 have H3 := kq3 h3 k3 hr3
 clear h3 k3 hr3
 cases er with
 | succ er =>
  have hq1 : (((er + 1 : Nat) : Int) != 0) = true := by simp; omega
  obtain ⟨g1, hg1⟩ : ∃ g1, er + 1 = g1 := ⟨_, rfl⟩
  rw [hg1] at HG hq1 
  have hR1 : R = ((0, g1), S1) := by rw [← HG.out.2.2.2.1, ← hg1]; rfl
  have HR1 := Lib.hid hR1
  simp only [hg1]
  clear hR1 hg1
  go_wp2_with fail
  go_ret2
  obtain rfl := HR1.out
  exact ⟨rfl, H3.out.1.mono fun k hk => Or.inl hk, (Keep.of_below H2.out.2.1 HG.out.2.2.2.2.1.yl).trans (H3.out.2.1.mono fun k hk => Or.inl hk)⟩
 | zero =>
  have hR1 : R = ((hh, 0), putWords S1 hh 0 ws) := by rw [← HG.out.2.2.2.1]; rfl
  have HR1 := Lib.hid hR1
  clear hR1
  go_wp2_with fail
  go_loopw [11, 12, 40] (fun _ _ i wr => ∃ k : Nat, k ≤ n ∧ i = .int .i64 k ∧ ∃ Sk, StOn wr ps Sk (fun k => Y k ∨ (w.heap.size ≤ k ∧ k < w2.heap.size)) ∧ Inv Sk ∧ putWords Sk hh k (ws.drop k) = R.2 ∧ Keep (fun k => Y k ∨ (w.heap.size ≤ k ∧ k < w2.heap.size)) w2 wr) (fun _ _ i _ => n - (intOf i).toNat)
  case atStart => exact ⟨0, by omega, rfl, S1, H3.out.1, HG.out.2.2.2.2.2.2, by rw [HR1.out]; rfl, H3.out.2.1⟩
  case round =>
   obtain ⟨k, hk, rfl, Sk, hSk, hIk, hpk, hkk⟩ := hrel
   by_cases hlt : k < n
   · have hlt' : (k : Int) < n := by omega
     have hlw : k < ws.length := by rw [HN.out]; exact hlt
     obtain ⟨G', c', he, _, hcs⟩ := H2.out.1.keep hkk (fun k h1 h2 => Or.inr ⟨h1, h2⟩)
     injection he with he1 he2 he3
     injection he1 with he1
     injection he1 with he1
     subst he1
     have c1 := hcs k hlw
     have hx := HG.out.2.2.2.2.2.1 _ (List.getElem_mem hlw)
     have hd : ws.drop k = ws[k] :: ws.drop (k + 1) := List.drop_eq_getElem_cons hlw
     rw [hd] at hpk
     have hpu := st_put hSk hIk hh k ws[k] hmlt (by omega) hx
     have hin := hIk.put hh k ws[k]
     generalize ws[k] = x at *
     have HK := kq5 hpu hin hpk hkk hlw
     clear hpu hin hpk hkk hlw hcs hd hSk hIk he2 he3
     go_wp2_with fail
     refine HK.out.1.mono ?_
     rintro e w4 ⟨rfl, h4, k4⟩
     have H4 := kq2 h4 (HK.out.2.2.2.1.trans k4)
     clear h4 k4
     go_wp2_with fail
     go_roundw
     case rel => exact ⟨k + 1, by omega, by simp, _, H4.out.1, HK.out.2.1, HK.out.2.2.1, H4.out.2⟩
     case measure => simp [intOf]; omega
   · obtain rfl : k = n := by omega
     have HK := kq3 hSk hpk hkk
     clear hSk hpk hkk hIk
     go_wp2_with fail
     go_ret2
     have hf : Sk = R.2 := by rw [← HK.out.2.1, List.drop_eq_nil_of_le (by rw [HN.out]; exact Nat.le_refl _)]; rfl
     have e1 : R.1 = (hh, 0) := by rw [HR1.out]
     rw [e1, ← hf]
     exact ⟨rfl, HK.out.1.mono fun k hk => Or.inl hk, (Keep.of_below H2.out.2.1 HG.out.2.2.2.2.1.yl).trans (HK.out.2.2.mono fun k hk => Or.inl hk)⟩
