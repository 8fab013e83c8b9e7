/- The store: Make: the walk. The store's records stay apart and short: what put, and rows of puts, leave as it was: plain. -/
import Derived.Test.YtepdkbmnkjfcpaaGreatDoorVai
import Derived.Defers
import Derived.Deep.RegionHeld3
import Derived.Test.YtepdkbmnkjfcpaaGreatDoorVah
set_option maxRecDepth 100000
set_option maxHeartbeats 3200000
namespace Go.Proofs.YtepdkbmnkjfcpaaGreatDoor
open Go.RowKit Go.BigFrame Go.Maps Go.WideMaps Lf
theorem StIn.of_keep {w w' : World} {ps pa pm ph pt : Nat} {v : Value} {S : St} {Y : Nat → Prop} (h : StIn w ps pa pm ph pt v S Y) (hs : w.heap.size ≤ w'.heap.size)
    (hk : ∀ k, k < w.heap.size → (¬ Y k ∨ k = ps ∨ k = ph ∨ k = tabB) → w'.heap[k]? = w.heap[k]?) : StIn w' ps pa pm ph pt v S Y := by
  obtain ⟨blk, hsl⟩ := h.heap.slab
  have hnY : ∀ k, ¬ YS Y ps ph pt v k → ¬ Y k := fun k hk hy => hk (Or.inl hy)
  have hpt : ¬ Y pt := fun hy => (h.off pt (Or.inl hy)).1 rfl
  refine ⟨?_, ⟨⟨blk, hsl.of_keep hs fun k hkl hkk => hk k hkl (Or.inl (hnY k ?_))⟩, ?_, h.heap.yh, h.heap.tab.of_block (hk tabB h.heap.tab.lt (Or.inr (Or.inr (Or.inr rfl)))), h.heap.yt⟩, h.tab.of_keep (hk pt h.tab.pt_lt (Or.inl hpt)) fun b hb => hk b (h.tab.own_lt hb) (Or.inl fun hy => (h.off b (Or.inl hy)).2 hb), h.off⟩
  · rw [hk ps (Array.getElem?_eq_some_iff.1 h.hd).1 (Or.inr (Or.inl rfl))]; exact h.hd
  · rcases hkk with rfl | rfl | ⟨p, hp, rfl⟩
    · exact hsl.ya
    · exact hsl.ym
    · exact hsl.yp p hp
  · rw [hk ph h.heap.lt (Or.inr (Or.inr (Or.inl rfl)))]; exact h.heap.hp
theorem StIn.wide {w w' : World} {ps pa pm ph pt : Nat} {v : Value} {S : St} {Y : Nat → Prop} (h : StIn w ps pa pm ph pt v S Y) (hb : Below w.heap.size w w') : StIn w' ps pa pm ph pt v S (fun k => Y k ∨ (w.heap.size ≤ k ∧ k < w'.heap.size)) := by
  have h' := h.below hb
  refine ⟨h'.hd, ?_, h'.tab, ?_⟩
  · refine (h.heap.wide hb).mono ?_ (Or.inr (Or.inr (Or.inl rfl))) (Or.inr (Or.inr (Or.inr (Or.inl rfl))))
    rintro k ((hk | hk) | hk)
    · exact Or.inl (Or.inl hk)
    · exact Or.inr hk
    · exact Or.inl (Or.inr hk)
  · rintro k ((hk | hk) | hk)
    · exact h.off k (Or.inl hk)
    · have h1 := h.tab.pt_lt
      refine ⟨by omega, fun e => ?_⟩
      have := h.tab.own_lt e
      omega
    · exact h.off k (Or.inr hk)
theorem StIn.mono {w : World} {ps pa pm ph pt : Nat} {v : Value} {S : St} {Y Z : Nat → Prop} (h : StIn w ps pa pm ph pt v S Y) (hz : ∀ k, Z k → Y k) : StIn w ps pa pm ph pt v S Z :=
  ⟨h.hd, h.heap.mono (fun _ hk => hk.imp (hz _) id) (Or.inr (Or.inr (Or.inl rfl))) (Or.inr (Or.inr (Or.inr (Or.inl rfl)))), h.tab, fun k hk => h.off k (hk.imp (hz k) id)⟩
theorem StIn.setCell {w : World} {ps pa pm ph pt : Nat} {v : Value} {S : St} {Y : Nat → Prop} (h : StIn w ps pa pm ph pt v S Y) {b o : Nat} (hy : Y b) (h1 : b ≠ ps) (h2 : b ≠ ph) (h3 : b ≠ tabB) (x : Value) : StIn (w.setCell ⟨b, o, none⟩ x) ps pa pm ph pt v S Y :=
  h.of_keep (Nat.le_of_eq (size_setCell w _ _).symm) fun k _ hk => heap_setCell_ne (by
    rintro rfl
    rcases hk with hk | hk | hk | hk
    · exact hk hy
    · exact h1 hk
    · exact h2 hk
    · exact h3 hk)
theorem allocH_le {s : Slab} (hw : SlabWF s) (n : Nat) : (allocH s n).1.1 ≤ 1152921504606846976 := by
  have hp : ∀ p c k, p ≤ 1048576 → placeH p c k ≤ 1152921504606846976 := fun p c k h => by
    have := classPlace_le c k
    unfold placeH
    omega
  unfold allocH
  by_cases h : n < 1 ∨ 4000 < n
  · rw [if_pos h]; simp
  · rw [if_neg h]
    cases hc : classOf n with
    | none =>
      simp only
      have := grant_le hw (n := classPages n) (by have := classPages_le (n := n) (by omega); omega)
      obtain ⟨⟨⟨gp, ge⟩, gs⟩, hg⟩ : ∃ g, s.grant (classPages n) = g := ⟨_, rfl⟩
      rw [hg] at this ⊢
      simp only at this
      cases ge with
      | zero => simp only; omega
      | succ e => simp
    | some c =>
      simp only
      cases hs : spotH s c with
      | some pk =>
        obtain ⟨p, k⟩ := pk
        simp only [takeH]
        exact hp _ _ _ (by have := (spotH_le hw hs).1; omega)
      | none =>
        simp only
        have := grant_le hw (n := 1) (by omega)
        obtain ⟨⟨⟨gp, ge⟩, gs⟩, hg⟩ : ∃ g, s.grant 1 = g := ⟨_, rfl⟩
        rw [hg] at this ⊢
        simp only at this
        cases ge with
        | zero => simp only [takeH]; exact hp _ _ _ (by omega)
        | succ e => simp
theorem firstFree_le : ∀ (l : List Slot) (k : Nat), firstFree l k ≤ k + l.length
  | [], k => Nat.le_refl _
  | x :: r, k => by
    unfold firstFree
    split
    · simp
    · have := firstFree_le r (k + 1); simp only [List.length_cons]; omega
theorem open_lt {t : Tab} (hw : TabWF t) (a : Nat) : (t.open a).1.1 < 18446744073709551616 := by
  have h1 := firstFree_le t.slots 0
  have h2 := hw.len
  have h3 := hw.most
  have h4 : (t.genAt (firstFree t.slots 0) + 1) % 4294967296 < 4294967296 := Nat.mod_lt _ (by decide)
  unfold Tab.open
  simp only
  split
  · simp
  · simp only [nameOf]; omega
theorem open_same (t : Tab) (a : Nat) : (t.open a).2.most = t.most ∧ (t.open a).2.last = t.last := by
  unfold Tab.open
  simp only
  split <;> exact ⟨rfl, rfl⟩
theorem make_door {w : World} {be bs ba : Nat} (he : w.cell? ⟨be, 0, none⟩ = some (.int .i64 0)) :
    CallsD Tryz.prog 126 #[PV be, PV bs, PV ba] .returning w fun e u' w' => u' = .returning ∧ (e = .returned (.tuple #[]) ∧ w' = w) := by
  go_enter_d Tryz.func126, Tryz.ntmps126
  go_wp2_with fail
  go_end0
  exact ⟨rfl, rfl⟩
theorem st_make {w : World} {ps : Nat} {S : St} {Y : Nat → Prop} (h : StOn w ps S Y) (n : Nat) (hn : n ≤ 3998) (ho : (S.t.open (allocH S.a (n + 2)).1.1).1.2 = 0) :
    Calls Tryz.prog 93 #[PV ps, .int .i64 n] w fun e w' => e = .returned (.tuple #[.int .u64 ((S.make n).1.1 : Nat), .int .i64 ((S.make n).1.2 : Nat)]) ∧ StOn w' ps (S.make n).2 Y ∧ Keep Y w w' := by
  have hn' : (n : Int) ≤ 3998 := by omega
  have hb1 := ((Below.refl _ w).alloc (Nat.le_refl _) (.cells #[PV ps] 25)).alloc (by simp) (.cells #[.int .i64 0] 26)
  obtain ⟨pa, pm, ph, pt, v, h⟩ := h
  have h1 := h.wide hb1
  have hno := st_none ⟨_, _, _, _, _, h1⟩
  have hpl : ph < w.heap.size ∧ pt < w.heap.size ∧ ps < w.heap.size ∧ tabB < w.heap.size ∧ ∀ b, v.ownBlock = some b → b < w.heap.size := ⟨h.heap.lt, h.tab.pt_lt, (Array.getElem?_eq_some_iff.1 h.hd).1, h.heap.tab.lt, fun b hb => h.tab.own_lt hb⟩
  have hsz1 : ((w.alloc (.cells #[PV ps] 25)).alloc (.cells #[.int .i64 0] 26)).heap.size = w.heap.size + 2 := by simp
  have k0 : ((w.alloc (.cells #[PV ps] 25)).alloc (.cells #[.int .i64 0] 26)).heap[w.heap.size]? = some (.cells #[PV ps] 25 (0, 0)) := by
    rw [heap_alloc_old _ _ (by simp)]; exact heap_alloc_new w _
  have k1 : ((w.alloc (.cells #[PV ps] 25)).alloc (.cells #[.int .i64 0] 26)).heap[w.heap.size + 1]? = some (.cells #[.int .i64 0] 26 (0, 0)) := by
    have := heap_alloc_new (w.alloc (.cells #[PV ps] 25)) (.cells #[.int .i64 0] 26)
    rwa [World.size_alloc] at this
  have hR : S.make n = match allocH S.a (n + 2) with
    | ((addr, 0), a1) =>
      match S.t.open addr with
      | ((h, 0), t1) => ((h, 0), ⟨(a1.wr addr h).wr (addr + 1) n, t1⟩)
      | ((_, e), t1) => ((0, e), ⟨(freeH a1 addr).2, t1⟩)
    | ((_, e), a1) => ((0, e), { S with a := a1 }) := by unfold St.make; rw [if_neg (by omega)]; rfl
  obtain ⟨R, hRR⟩ : ∃ R, S.make n = R := ⟨_, rfl⟩
  rw [hRR] at hR ⊢
  have hal := heap_alloc h1.heap (n + 2) (by omega)
  have hale := allocH_le h1.heap.wf (n + 2)
  obtain ⟨⟨⟨ad, er⟩, a1⟩, hA⟩ : ∃ r, allocH S.a (n + 2) = r := ⟨_, rfl⟩
  rw [hA] at hR ho hal hale
  simp only at hR ho hal hale
  have hcast : ((n + 2 : Nat) : Int) = (n : Int) + 2 := by omega
  rw [hcast] at hal
  have HG := Lib.hid (And.intro hno (And.intro hal (And.intro h1 (And.intro h (And.intro hb1 (And.intro k0 (And.intro k1 (And.intro hR ho))))))))
  cases er with
  | succ er =>
    have hq1 : (((er + 1 : Nat) : Int) != 0) = true := by simp; omega
    obtain ⟨g1, hg1⟩ : ∃ g1, er + 1 = g1 := ⟨_, rfl⟩
    rw [hg1] at HG hq1 hal hR
    have hq2 : ¬ (g1 : Int) = 0 := by omega
    have hR1 : R = ((0, g1), { S with a := a1 }) := by rw [hR, ← hg1]; rfl
    have HR1 := Lib.hid hR1
    clear hR1
    clear hno hal h1 h hb1 k0 k1 hR ho hRR hA hcast hg1
    go_enter_defers Tryz.func93, Tryz.ntmps93
    go_wp2_with fail
    generalize ((w.alloc (.cells #[PV ps] 25)).alloc (.cells #[.int .i64 0] 26)) = W1 at *
    obtain ⟨hno, hal, h1, h, hb1, k0, k1, hR, ho⟩ := HG.out
    refine hno.mono ?_
    rintro e w1 ⟨rfl, rfl⟩
    obtain ⟨_, _, _, c3, c4⟩ := h1.cells
    have d0 : W1.cell? ⟨w.heap.size, 0, none⟩ = some (PV ps) := by rw [cell_of_block k0]; rfl
    clear hno hal h1 h hb1 k0 k1 hR ho c4
    go_wp2_with fail
    refine HG.out.2.1.mono ?_
    rintro e w2 ⟨rfl, hA2, hk2⟩
    obtain ⟨hno, hal, h1, h, hb1, k0, k1, hR, ho⟩ := HG.out
    have h2 := h1.arena hA2 hk2
    have hsz2 := hk2.size
    have j0 : w2.heap[w.heap.size]? = some (.cells #[PV ps] 25 (0, 0)) := (hk2.block _ (Or.inl (Or.inr ⟨Nat.le_refl _, by omega⟩))).trans k0
    have j1 : w2.heap[w.heap.size + 1]? = some (.cells #[.int .i64 0] 26 (0, 0)) := (hk2.block _ (Or.inl (Or.inr ⟨by omega, by omega⟩))).trans k1
    have e1 : w2.cell? ⟨w.heap.size + 1, 0, none⟩ = some (.int .i64 0) := by rw [cell_of_block j1]; rfl
    have f1 : w2.frozen? ⟨w.heap.size + 1, 0, none⟩ = false := frozen_of_block j1
    have hlt2 : w.heap.size + 1 < w2.heap.size := by omega
    have H2 := Lib.hid (And.intro h2 (And.intro hsz2 (And.intro j0 (And.intro j1 hk2))))
    clear hno hal h1 h hb1 k0 k1 hR ho h2 hsz2 j0 j1 hA2 hk2 c3 d0
    go_wp2_with fail
    go_region
    go_wp2_with fail
    obtain ⟨_, _, h1, h, hb1, _, _, hR, _⟩ := HG.out
    obtain ⟨h2, hsz2, j0, j1, hk2⟩ := H2.out
    have x1 : ((w2.setCell ⟨w.heap.size + 1, 0, none⟩ (.int .i64 g1)).setCell ⟨w.heap.size + 1, 0, none⟩ (.int .i64 g1)).heap[w.heap.size + 1]? = some (.cells #[.int .i64 g1] 26 (0, 0)) := by
      rw [heap_setCell (heap_setCell j1)]; rfl
    have x2 := (h2.setCell (b := w.heap.size + 1) (o := 0) (Or.inr ⟨by omega, by omega⟩) (by omega) (by omega) (by omega) (.int .i64 g1)).setCell (b := w.heap.size + 1) (o := 0) (Or.inr ⟨by omega, by omega⟩) (by omega) (by omega) (by omega) (.int .i64 g1)
    have x3 := ((Below.refl _ ((w2.setCell ⟨w.heap.size + 1, 0, none⟩ (.int .i64 g1)).setCell ⟨w.heap.size + 1, 0, none⟩ (.int .i64 g1))).alloc (Nat.le_refl _) (.cells #[.int .i64 ad] 3))
    have x4 := (x2.below x3).below (w' := (((w2.setCell ⟨w.heap.size + 1, 0, none⟩ (.int .i64 g1)).setCell ⟨w.heap.size + 1, 0, none⟩ (.int .i64 g1)).alloc (.cells #[.int .i64 ad] 3)).drew) ⟨rfl, rfl, rfl, Nat.le_refl _, fun _ _ => rfl⟩
    have x5 : ∀ k, k < w.heap.size → (((w2.setCell ⟨w.heap.size + 1, 0, none⟩ (.int .i64 g1)).setCell ⟨w.heap.size + 1, 0, none⟩ (.int .i64 g1)).alloc (.cells #[.int .i64 ad] 3)).drew.heap[k]? = w2.heap[k]? := fun k hk => by
      show (World.alloc _ _).heap[k]? = _
      rw [heap_alloc_old _ _ (by simp; omega), heap_setCell_ne (by omega), heap_setCell_ne (by omega)]
    have x6 : (((w2.setCell ⟨w.heap.size + 1, 0, none⟩ (.int .i64 g1)).setCell ⟨w.heap.size + 1, 0, none⟩ (.int .i64 g1)).alloc (.cells #[.int .i64 ad] 3)).drew.cell? ⟨w.heap.size + 1, 0, none⟩ = some (.int .i64 g1) := by
      show (World.alloc _ _).cell? _ = _
      rw [cell_of_block (by rw [heap_alloc_old _ _ (by simp; omega)]; exact x1)]
      rfl
    have x7 : w2.heap.size ≤ (((w2.setCell ⟨w.heap.size + 1, 0, none⟩ (.int .i64 g1)).setCell ⟨w.heap.size + 1, 0, none⟩ (.int .i64 g1)).alloc (.cells #[.int .i64 ad] 3)).drew.heap.size := by
      show _ ≤ (World.alloc _ _).heap.size
      simp
    have x8 : (((w2.setCell ⟨w.heap.size + 1, 0, none⟩ (.int .i64 g1)).setCell ⟨w.heap.size + 1, 0, none⟩ (.int .i64 g1)).alloc (.cells #[.int .i64 ad] 3)).drew.os = w2.os ∧ (((w2.setCell ⟨w.heap.size + 1, 0, none⟩ (.int .i64 g1)).setCell ⟨w.heap.size + 1, 0, none⟩ (.int .i64 g1)).alloc (.cells #[.int .i64 ad] 3)).drew.tape = w2.tape ∧ (((w2.setCell ⟨w.heap.size + 1, 0, none⟩ (.int .i64 g1)).setCell ⟨w.heap.size + 1, 0, none⟩ (.int .i64 g1)).alloc (.cells #[.int .i64 ad] 3)).drew.output = w2.output := ⟨rfl, rfl, rfl⟩
    obtain rfl := HR1.out
    generalize (((w2.setCell ⟨w.heap.size + 1, 0, none⟩ (.int .i64 g1)).setCell ⟨w.heap.size + 1, 0, none⟩ (.int .i64 g1)).alloc (.cells #[.int .i64 ad] 3)).drew = W9 at *
    refine ⟨.tuple #[.int .u64 0, .int .i64 g1], ?_, rfl, ⟨_, _, _, _, _, x4.mono fun k hk => Or.inl hk⟩, ?_⟩
    · simp [results, Tryz.f93, go_sem, x6]
    · refine ⟨x8.1.trans (hk2.os.trans hb1.os), x8.2.1.trans (hk2.tape.trans hb1.tape), x8.2.2.trans (hk2.output.trans hb1.output), by omega, fun k hk => ?_⟩
      have hk0 := h.yl k hk
      rw [x5 k hk0, hk2.block k (Or.inl (Or.inl hk)), hb1.block k hk0]
  | zero =>
    clear hno hal h1 h hb1 k0 k1 hR ho hRR hA hcast
    go_enter_defers Tryz.func93, Tryz.ntmps93
    go_wp2_with fail
    generalize ((w.alloc (.cells #[PV ps] 25)).alloc (.cells #[.int .i64 0] 26)) = W1 at *
    obtain ⟨hno, hal, h1, h, hb1, k0, k1, hR, ho⟩ := HG.out
    refine hno.mono ?_
    rintro e w1 ⟨rfl, rfl⟩
    obtain ⟨_, _, _, c3, c4⟩ := h1.cells
    have d0 : W1.cell? ⟨w.heap.size, 0, none⟩ = some (PV ps) := by rw [cell_of_block k0]; rfl
    clear hno hal h1 h hb1 k0 k1 hR ho c4
    go_wp2_with fail
    refine HG.out.2.1.mono ?_
    rintro e w2 ⟨rfl, hA2, hk2⟩
    obtain ⟨hno, hal, h1, h, hb1, k0, k1, hR, ho⟩ := HG.out
    have h2 := h1.arena hA2 hk2
    have hsz2 := hk2.size
    have j0 : w2.heap[w.heap.size]? = some (.cells #[PV ps] 25 (0, 0)) := (hk2.block _ (Or.inl (Or.inr ⟨Nat.le_refl _, by omega⟩))).trans k0
    have j1 : w2.heap[w.heap.size + 1]? = some (.cells #[.int .i64 0] 26 (0, 0)) := (hk2.block _ (Or.inl (Or.inr ⟨by omega, by omega⟩))).trans k1
    have e1 : w2.cell? ⟨w.heap.size + 1, 0, none⟩ = some (.int .i64 0) := by rw [cell_of_block j1]; rfl
    have f1 : w2.frozen? ⟨w.heap.size + 1, 0, none⟩ = false := frozen_of_block j1
    have hlt2 : w.heap.size + 1 < w2.heap.size := by omega
    have H2 := Lib.hid (And.intro h2 (And.intro hsz2 (And.intro j0 (And.intro j1 hk2))))
    clear hno hal h1 h hb1 k0 k1 hR ho h2 hsz2 j0 j1 hA2 hk2 c3 d0
    go_wp2_with fail
    go_name_world W3 HW3
    obtain ⟨⟨⟨hh, he⟩, t1⟩, hO⟩ : ∃ r, S.t.open ad = r := ⟨_, rfl⟩
    obtain ⟨h2, hsz2, j0, j1, hk2⟩ := H2.out
    have hbA : Below (w2.setCell ⟨w.heap.size + 1, 0, none⟩ (.int .i64 0)).heap.size (w2.setCell ⟨w.heap.size + 1, 0, none⟩ (.int .i64 0)) ((w2.setCell ⟨w.heap.size + 1, 0, none⟩ (.int .i64 0)).alloc (.cells #[.int .i64 ad] 3)) := (Below.refl _ _).alloc (Nat.le_refl _) _
    have h3 := (h2.setCell (b := w.heap.size + 1) (o := 0) (Or.inr ⟨by omega, by omega⟩) (by omega) (by omega) (by omega) (.int .i64 0)).wide hbA
    have z3 : ((w2.setCell ⟨w.heap.size + 1, 0, none⟩ (.int .i64 0)).alloc (.cells #[.int .i64 ad] 3)).heap.size = w2.heap.size + 1 := by simp
    have g0 : ((w2.setCell ⟨w.heap.size + 1, 0, none⟩ (.int .i64 0)).alloc (.cells #[.int .i64 ad] 3)).heap[w.heap.size]? = some (.cells #[PV ps] 25 (0, 0)) := by
      rw [heap_alloc_old _ _ (by simp; omega), heap_setCell_ne (by omega)]; exact j0
    have g1 : ((w2.setCell ⟨w.heap.size + 1, 0, none⟩ (.int .i64 0)).alloc (.cells #[.int .i64 ad] 3)).heap[w.heap.size + 1]? = some (.cells #[.int .i64 0] 26 (0, 0)) := by
      rw [heap_alloc_old _ _ (by simp; omega), heap_setCell j1]; rfl
    have g2 : ((w2.setCell ⟨w.heap.size + 1, 0, none⟩ (.int .i64 0)).alloc (.cells #[.int .i64 ad] 3)).heap[w2.heap.size]? = some (.cells #[.int .i64 ad] 3 (0, 0)) := by
      have := heap_alloc_new (w2.setCell ⟨w.heap.size + 1, 0, none⟩ (.int .i64 0)) (.cells #[.int .i64 ad] 3)
      rwa [size_setCell] at this
    have kp3 : ∀ k, k < w2.heap.size → k ≠ w.heap.size + 1 → ((w2.setCell ⟨w.heap.size + 1, 0, none⟩ (.int .i64 0)).alloc (.cells #[.int .i64 ad] 3)).heap[k]? = w2.heap[k]? := fun k hk hne => by
      rw [heap_alloc_old _ _ (by simp; omega), heap_setCell_ne hne]
    have kos : ((w2.setCell ⟨w.heap.size + 1, 0, none⟩ (.int .i64 0)).alloc (.cells #[.int .i64 ad] 3)).os = w2.os ∧ ((w2.setCell ⟨w.heap.size + 1, 0, none⟩ (.int .i64 0)).alloc (.cells #[.int .i64 ad] 3)).tape = w2.tape ∧ ((w2.setCell ⟨w.heap.size + 1, 0, none⟩ (.int .i64 0)).alloc (.cells #[.int .i64 ad] 3)).output = w2.output := ⟨rfl, rfl, rfl⟩
    clear hbA
    simp only [size_setCell] at h3
    rw [HW3] at h3 z3 g0 g1 g2 kp3 kos
    rw [z3] at h3
    obtain ⟨hno, hal, h1, h, hb1, k0, k1, hR, ho⟩ := HG.out
    rw [hO] at ho
    simp only at ho
    subst ho
    have hol := open_lt h3.tab.wf ad
    have hos := open_same S.t ad
    simp only at hol
    rw [hO] at hol hos
    simp only at hol hos
    have d0 : W3.cell? ⟨w.heap.size, 0, none⟩ = some (PV ps) := by rw [cell_of_block g0]; rfl
    have d1 : W3.cell? ⟨w.heap.size + 1, 0, none⟩ = some (.int .i64 0) := by rw [cell_of_block g1]; rfl
    have d2 : W3.cell? ⟨w2.heap.size, 0, none⟩ = some (.int .i64 ad) := by rw [cell_of_block g2]; rfl
    have fr1 : W3.frozen? ⟨w.heap.size + 1, 0, none⟩ = false := frozen_of_block g1
    have d4 := h3.cells.2.2.2.2
    have hto2 : ∀ q, Calls Tryz.prog 127 #[PV pt, .int .i64 ad] (W3.drewN q) fun e w' => e = .returned (.tuple #[.int .u64 hh, .int .i64 0]) ∧ (w'.cell? ⟨w.heap.size, 0, none⟩ = some (PV ps) ∧ w'.cell? ⟨ps, 4, none⟩ = some (PV pt) ∧ w'.cell? ⟨w2.heap.size, 0, none⟩ = some (.int .i64 ad)) ∧ (w'.cell? ⟨w.heap.size + 1, 0, none⟩ = some (.int .i64 0) ∧ w'.frozen? ⟨w.heap.size + 1, 0, none⟩ = false) ∧ ∃ v', StIn w' ps pa pm ph pt v' ⟨a1, t1⟩ (fun k => (Y k ∨ w.heap.size ≤ k ∧ k < W1.heap.size) ∨ w2.heap.size ≤ k ∧ k < w2.heap.size + 1) ∧ Keep (fun k => k < W3.heap.size ∧ k ≠ pt ∧ v.ownBlock ≠ some k) W3 w' := fun q => by
      have h3q := h3.below (w' := W3.drewN q) ⟨rfl, rfl, rfl, Nat.le_refl _, fun _ _ => rfl⟩
      have hto := tab_open h3q.tab ad (by omega) (fun k => k < W3.heap.size ∧ k ≠ pt ∧ v.ownBlock ≠ some k) (fun b hb => ⟨hb.1, hb.2.1, fun e => hb.2.2 e.symm⟩)
      simp only at hto
      rw [hO] at hto
      refine hto.mono ?_
      rintro e w' ⟨rfl, ⟨v', ht, hv'⟩, hk⟩
      have hZ : ∀ k, k < w2.heap.size + 1 → w.heap.size ≤ k ∨ k = ps → k < W3.heap.size ∧ k ≠ pt ∧ v.ownBlock ≠ some k := fun k hk1 hk2 => by
        refine ⟨by omega, ?_, fun e => ?_⟩
        · rcases hk2 with hk2 | rfl
          · omega
          · exact (h.off _ (Or.inr (Or.inl rfl))).1
        · rcases hk2 with hk2 | rfl
          · have := hpl.2.2.2.2 k e; omega
          · exact (h.off _ (Or.inr (Or.inl rfl))).2 e
      have n0 := hk.block w.heap.size (hZ _ (by omega) (Or.inl (Nat.le_refl _)))
      have n1 := hk.block (w.heap.size + 1) (hZ _ (by omega) (Or.inl (by omega)))
      have n2 := hk.block w2.heap.size (hZ _ (by omega) (Or.inl (by omega)))
      have n3 := hk.block ps (hZ _ (by omega) (Or.inr rfl))
      refine ⟨rfl, ⟨(World.cell?_of_block n0).trans d0, (World.cell?_of_block n3).trans d4, (World.cell?_of_block n2).trans d2⟩, ⟨(World.cell?_of_block n1).trans d1, (World.frozen?_of_block n1).trans fr1⟩, v', ?_, ⟨hk.os, hk.tape, hk.output, hk.size, hk.block⟩⟩
      exact h3q.table ht hos _ (fun k h1 h2 h3 => ⟨h1, h2, h3⟩) hk (fun b hb e => hv' b hb e.symm)
    have H3 := Lib.hid (And.intro h3 (And.intro z3 (And.intro g0 (And.intro g1 (And.intro g2 (And.intro kp3 (And.intro kos (And.intro hto2 (And.intro hol hO)))))))))
    clear hno hal h1 h hb1 k0 k1 hR h3 z3 g0 g1 g2 kp3 kos hto2 hol hO hos h2 hsz2 j0 j1 hk2 e1 f1 HW3
    go_region_held3 (fun w' => w'.cell? ⟨w.heap.size, 0, none⟩ = some (PV ps) ∧ w'.cell? ⟨ps, 4, none⟩ = some (PV pt) ∧ w'.cell? ⟨w2.heap.size, 0, none⟩ = some (.int .i64 ad)) (first | exact ⟨d0, d4, d2⟩ | exact hQ | exact ⟨(World.cell?_of_block (heap_setCell_ne (show w.heap.size ≠ w.heap.size + 1 by omega))).trans hQ.1, (World.cell?_of_block (heap_setCell_ne (show ps ≠ w.heap.size + 1 by omega))).trans hQ.2.1, (World.cell?_of_block (heap_setCell_ne (show w2.heap.size ≠ w.heap.size + 1 by omega))).trans hQ.2.2⟩)
      (first | (go_at_call 127; refine (H3.out.2.2.2.2.2.2.2.1 1).mono ?_; rintro e w4 ⟨rfl, hQ, ⟨e4, f4⟩, v', h4, k4⟩))
    obtain ⟨h3, z3, g0, g1, g2, kp3, kos, hto2, hol, hO⟩ := H3.out
    have h5 := h4.setCell (b := w.heap.size + 1) (o := 0) (Or.inl (Or.inr ⟨by omega, by omega⟩)) (by omega) (by omega) (by omega) (.int .i64 0)
    have q0 : (w4.setCell ⟨w.heap.size + 1, 0, none⟩ (.int .i64 0)).cell? ⟨w.heap.size, 0, none⟩ = some (PV ps) := (World.cell?_of_block (heap_setCell_ne (show w.heap.size ≠ w.heap.size + 1 by omega))).trans hQ.1
    have q2 : (w4.setCell ⟨w.heap.size + 1, 0, none⟩ (.int .i64 0)).cell? ⟨w2.heap.size, 0, none⟩ = some (.int .i64 ad) := (World.cell?_of_block (heap_setCell_ne (show w2.heap.size ≠ w.heap.size + 1 by omega))).trans hQ.2.2
    have q1 : (w4.setCell ⟨w.heap.size + 1, 0, none⟩ (.int .i64 0)).cell? ⟨w.heap.size + 1, 0, none⟩ = some (.int .i64 0) := World.cell?_setCell_same' _ _ _ (by rw [e4]; rfl)
    have q1f : (w4.setCell ⟨w.heap.size + 1, 0, none⟩ (.int .i64 0)).frozen? ⟨w.heap.size + 1, 0, none⟩ = false := by rw [World.frozen?_setCell]; exact f4
    have q3 := h5.cells.2.2.1
    have k5 : ∀ k, k < w.heap.size → k ≠ pt → v.ownBlock ≠ some k → (w4.setCell ⟨w.heap.size + 1, 0, none⟩ (.int .i64 0)).heap[k]? = W3.heap[k]? := fun k h1 h2 h3 => by
      rw [heap_setCell_ne (by omega)]; exact k4.block k ⟨by omega, h2, h3⟩
    have s5 : W3.heap.size ≤ (w4.setCell ⟨w.heap.size + 1, 0, none⟩ (.int .i64 0)).heap.size := by rw [size_setCell]; exact k4.size
    have o5 : (w4.setCell ⟨w.heap.size + 1, 0, none⟩ (.int .i64 0)).os = W3.os ∧ (w4.setCell ⟨w.heap.size + 1, 0, none⟩ (.int .i64 0)).tape = W3.tape ∧ (w4.setCell ⟨w.heap.size + 1, 0, none⟩ (.int .i64 0)).output = W3.output := ⟨k4.os, k4.tape, k4.output⟩
    generalize w4.setCell ⟨w.heap.size + 1, 0, none⟩ (.int .i64 0) = W5 at *
    have H5 := Lib.hid (And.intro h5 (And.intro k5 (And.intro s5 (And.intro o5 (And.intro z3 hol)))))
    clear h3 z3 g0 g1 g2 kp3 kos hto2 hol hO h5 k5 s5 o5 hQ e4 f4 h4 k4 d0 d1 d2 fr1 d4
    go_wp2_with fail
    refine wp_region_quiet_tail (C := fun w' => ∃ q : Nat, w' = (W5).drewN q) 6 (by kernel_rfl) (by kernel_rfl) ⟨1, rfl⟩ ?_
    simp only [List.take_succ_cons, List.take_zero, List.drop_succ_cons, List.drop_zero]
    repeat (first | go_big_quiet_skip | (go_big_quiet_want; go_big_quiet_op; first | go_big_quiet_on))
    refine wpQuiet_nil ?_
    rintro _ ⟨q, rfl⟩
    have hwr := ((H5.out.1.below (w' := W5.drewN q) ⟨rfl, rfl, rfl, Nat.le_refl _, fun _ _ => rfl⟩).heap.write' ad hh (ai := ad) (xi := hh) (by omega) H5.out.2.2.2.2.2 rfl rfl)
    go_wp2_with fail
    refine hwr.mono ?_
    rintro e w6 ⟨rfl, hA6, k6⟩
    have h6 := (H5.out.1.below (w' := W5.drewN q) ⟨rfl, rfl, rfl, Nat.le_refl _, fun _ _ => rfl⟩).arena hA6 k6
    have y0 : ∀ k, w.heap.size ≤ k → k < w.heap.size + 2 → w6.heap[k]? = W5.heap[k]? := fun k h1 h2 => k6.block k (Or.inl (Or.inl (Or.inr ⟨h1, by omega⟩)))
    have y2 : w6.heap[w2.heap.size]? = W5.heap[w2.heap.size]? := k6.block _ (Or.inl (Or.inr ⟨Nat.le_refl _, by omega⟩))
    have y00 := y0 w.heap.size (Nat.le_refl _) (by omega)
    have y01 := y0 (w.heap.size + 1) (by omega) (by omega)
    have u0 : w6.cell? ⟨w.heap.size, 0, none⟩ = some (PV ps) := (World.cell?_of_block y00).trans q0
    have u1 : w6.cell? ⟨w.heap.size + 1, 0, none⟩ = some (.int .i64 0) := (World.cell?_of_block y01).trans q1
    have u1f : w6.frozen? ⟨w.heap.size + 1, 0, none⟩ = false := (World.frozen?_of_block y01).trans q1f
    have u2 : w6.cell? ⟨w2.heap.size, 0, none⟩ = some (.int .i64 ad) := (World.cell?_of_block y2).trans q2
    have u3 := h6.cells.2.2.1
    have H6 := Lib.hid (And.intro h6 k6)
    clear h6 k6 hA6 hwr y0 y00 y01 y2 q0 q1 q1f q2 q3
    go_wp2_with fail
    refine wp_region_quiet_tail (C := fun w' => ∃ q : Nat, w' = (w6).drewN q) 8 (by kernel_rfl) (by kernel_rfl) ⟨1, rfl⟩ ?_
    simp only [List.take_succ_cons, List.take_zero, List.drop_succ_cons, List.drop_zero]
    repeat (first | go_big_quiet_skip | (go_big_quiet_want; go_big_quiet_op; first | go_big_quiet_on))
    refine wpQuiet_nil ?_
    rintro _ ⟨q, rfl⟩
    have hwr := ((H6.out.1.below (w' := w6.drewN q) ⟨rfl, rfl, rfl, Nat.le_refl _, fun _ _ => rfl⟩).heap.write' (ad + 1) n (ai := (ad : Int) + 1) (xi := n) (by omega) (by omega) (by omega) rfl)
    go_wp2_with fail
    refine hwr.mono ?_
    rintro e w7 ⟨rfl, hA7, k7⟩
    have h7 := (H6.out.1.below (w' := w6.drewN q) ⟨rfl, rfl, rfl, Nat.le_refl _, fun _ _ => rfl⟩).arena hA7 k7
    have y1 : w7.heap[w.heap.size + 1]? = w6.heap[w.heap.size + 1]? := k7.block _ (Or.inl (Or.inl (Or.inr ⟨by omega, by omega⟩)))
    have v1 : w7.cell? ⟨w.heap.size + 1, 0, none⟩ = some (.int .i64 0) := (World.cell?_of_block y1).trans u1
    have v1f : w7.frozen? ⟨w.heap.size + 1, 0, none⟩ = false := (World.frozen?_of_block y1).trans u1f
    have H7 := Lib.hid (And.intro h7 k7)
    clear h7 k7 hA7 hwr y1 u0 u1 u1f u2 u3
    go_wp2_with fail
    refine leaves_cons (f := 126) (args := #[PV (w.heap.size + 1), PV w.heap.size, PV w2.heap.size]) (by simp) (by simp [go_sem]) ?_
    refine (make_door (w := w7.setCell ⟨w.heap.size + 1, 0, none⟩ (.int .i64 0)) (World.cell?_setCell_same' _ _ _ (by rw [v1]; rfl))).mono ?_
    rintro e u' w'' ⟨rfl, rfl, rfl⟩
    have x1 : (w7.setCell ⟨w.heap.size + 1, 0, none⟩ (.int .i64 0)).cell? ⟨w.heap.size + 1, 0, none⟩ = some (.int .i64 0) := World.cell?_setCell_same' _ _ _ (by rw [v1]; rfl)
    obtain ⟨_, _, h1, h, hb1, _, _, hR, _⟩ := HG.out
    obtain ⟨_, hsz2, _, _, hk2⟩ := H2.out
    obtain ⟨_, _, _, _, _, kp3, kos, _, _, hO⟩ := H3.out
    obtain ⟨_, k5, s5, o5, _, _⟩ := H5.out
    obtain ⟨_, k6⟩ := H6.out
    obtain ⟨h7, k7⟩ := H7.out
    rw [hO] at hR
    obtain rfl : R = ((hh, 0), ⟨(a1.wr ad hh).wr (ad + 1) n, t1⟩) := hR
    have k6s := k6.size
    have k7s := k7.size
    simp only [drewN_heap] at k6s k7s
    refine ⟨.tuple #[.int .u64 hh, .int .i64 0], ?_, rfl, ⟨_, _, _, _, _, (h7.setCell (b := w.heap.size + 1) (o := 0) (Or.inl (Or.inr ⟨by omega, by omega⟩)) (by omega) (by omega) (by omega) (.int .i64 0)).mono fun k hk => Or.inl (Or.inl hk)⟩, ?_⟩
    · simp [results, Tryz.f93, go_sem, x1]
    · refine ⟨k7.os.trans (k6.os.trans (o5.1.trans (kos.1.trans (hk2.os.trans hb1.os)))), k7.tape.trans (k6.tape.trans (o5.2.1.trans (kos.2.1.trans (hk2.tape.trans hb1.tape)))), k7.output.trans (k6.output.trans (o5.2.2.trans (kos.2.2.trans (hk2.output.trans hb1.output)))), ?_, fun k hk => ?_⟩
      · rw [size_setCell]; omega
      · have hk0 := h.yl k hk
        have hkf := h.off k (Or.inl hk)
        rw [heap_setCell_ne (by omega)]
        refine (k7.block k (Or.inl (Or.inl (Or.inl hk)))).trans ((k6.block k (Or.inl (Or.inl (Or.inl hk)))).trans ?_)
        rw [show (W5.drewN _).heap[k]? = W5.heap[k]? from rfl, k5 k hk0 hkf.1 hkf.2, kp3 k (by omega) (by omega), hk2.block k (Or.inl (Or.inl hk)), hb1.block k hk0]
end Go.Proofs.YtepdkbmnkjfcpaaGreatDoor
namespace Go.Proofs.YtepdkbmnkjfcpaaGreatDoor
open Lf
theorem lookup_map_set (p i x : Nat) : ∀ (l : List (Nat × Page)) (q : Nat), (l.map fun y => if y.1 = p then (y.1, y.2.set i x) else y).lookup q = (l.lookup q).map fun t => if q = p then t.set i x else t
  | [], q => rfl
  | (a, t) :: l, q => by
    have ih := lookup_map_set p i x l q
    by_cases h2 : a = p
    · have e : ((a, t) :: l).map (fun y => if y.1 = p then (y.1, y.2.set i x) else y) = (a, t.set i x) :: l.map (fun y => if y.1 = p then (y.1, y.2.set i x) else y) := by simp [h2]
      rw [e, List.lookup_cons, List.lookup_cons]
      by_cases h1 : q = a
      · simp [h1, h2]
      · have h1' : (q == a) = false := by simpa using h1
        simp only [h1']
        exact ih
    · have e : ((a, t) :: l).map (fun y => if y.1 = p then (y.1, y.2.set i x) else y) = (a, t) :: l.map (fun y => if y.1 = p then (y.1, y.2.set i x) else y) := by simp [h2]
      rw [e, List.lookup_cons, List.lookup_cons]
      by_cases h1 : q = a
      · simp [h1, h2]
      · have h1' : (q == a) = false := by simpa using h1
        simp only [h1']
        exact ih
theorem Lf.Slab.page?_wr (s : Slab) (a x q : Nat) : (s.wr a x).page? q = (s.page? q).map fun t => if q = a / 64 then t.set (a % 64) x else t := lookup_map_set (a / 64) (a % 64) x s.pages q
theorem Lf.Slab.rd_wr_ne (s : Slab) (a x b : Nat) (h : b ≠ a) : (s.wr a x).rd b = s.rd b := by
  unfold Slab.rd
  rw [Slab.page?_wr]
  cases s.page? (b / 64) with
  | none => rfl
  | some t =>
    simp only [Option.map_some]
    by_cases e : b / 64 = a / 64
    · rw [if_pos e]
      have : a % 64 ≠ b % 64 := by omega
      simp [List.getD_eq_getElem?_getD, List.getElem?_set_ne this]
    · rw [if_neg e]
theorem Lf.St.place_some {S : St} {h k p : Nat} (hp : S.place h k = (p, 0)) : ∃ j, S.t.of h = some j ∧ ∃ hj : j < S.t.slots.length, p = S.t.slots[j].addr + 2 + k ∧ k < S.a.rd (S.t.slots[j].addr + 1) ∧ S.t.slots[j].is = 1 := by
  cases hk : S.t.of h with
  | none =>
    unfold St.place at hp
    rw [St.at_none hk] at hp
    simp at hp
  | some j =>
    obtain ⟨hj, h1, _⟩ := Tab.of_lt hk
    refine ⟨j, rfl, hj, ?_⟩
    unfold St.place at hp
    rw [St.at_some hk hj] at hp
    simp only at hp
    split at hp
    · rename_i hlt
      simp only [Prod.mk.injEq, and_true] at hp
      exact ⟨hp.symm, hlt, h1⟩
    · simp at hp
theorem Inv.place_ne {S : St} (hi : Inv S) {h k p : Nat} (hp : S.place h k = (p, 0)) (i : Nat) (hl : i < S.t.slots.length) (h1 : S.t.slots[i].is = 1) : S.t.slots[i].addr + 1 ≠ p := by
  obtain ⟨j, _, hj, rfl, hk, h2⟩ := St.place_some hp
  by_cases e : i = j
  · subst e; omega
  · have := hi.apart i j hl hj e h1 h2
    omega
theorem Inv.put {S : St} (hi : Inv S) (h k x : Nat) : Inv (S.put h k x).2 := by
  rw [St.put_place]
  rcases S.place_cases h k with ⟨p, hp⟩ | ⟨e, hp⟩
  · rw [hp]
    have key : ∀ (i : Nat) (hl : i < S.t.slots.length), S.t.slots[i].is = 1 → (S.a.wr p x).rd (S.t.slots[i].addr + 1) = S.a.rd (S.t.slots[i].addr + 1) := fun i hl h1 => Slab.rd_wr_ne _ _ _ _ (hi.place_ne hp i hl h1)
    refine ⟨fun i hl h1 => ?_, fun i j hl hj hne h1 h2 => ?_⟩
    · have h1' : S.t.slots[i].is = 1 := h1
      show (S.a.wr p x).rd (S.t.slots[i].addr + 1) ≤ 3998 ∧ _
      rw [key i hl h1']
      exact hi.len i hl h1'
    · show S.t.slots[i].addr + 2 + (S.a.wr p x).rd (S.t.slots[i].addr + 1) ≤ S.t.slots[j].addr ∨ S.t.slots[j].addr + 2 + (S.a.wr p x).rd (S.t.slots[j].addr + 1) ≤ S.t.slots[i].addr
      rw [key i hl h1, key j hj h2]
      exact hi.apart i j hl hj hne h1 h2
  · rw [hp]; exact hi
theorem put_t (S : St) (h k x : Nat) : (S.put h k x).2.t = S.t := by
  rw [St.put_place]
  rcases S.place_cases h k with ⟨p, hp⟩ | ⟨e, hp⟩ <;> · rw [hp]; rfl
theorem Inv.put_at {S : St} (hi : Inv S) (h k x h' : Nat) : (S.put h k x).2.at h' = S.at h' := by
  cases hk : S.t.of h' with
  | none => rw [St.at_none hk, St.at_none (by rw [put_t]; exact hk)]
  | some j =>
    obtain ⟨hj, h1, _⟩ := Tab.of_lt hk
    rw [St.at_some hk hj]
    rw [St.put_place]
    rcases S.place_cases h k with ⟨p, hp⟩ | ⟨e, hp⟩
    · rw [hp]
      refine (St.at_some (S := { S with a := S.a.wr p x }) (h := h') hk hj).trans ?_
      show (S.t.slots[j].addr, (S.a.wr p x).rd (S.t.slots[j].addr + 1), 0) = _
      rw [Slab.rd_wr_ne _ _ _ _ (hi.place_ne hp j hj h1)]
    · rw [hp]; exact St.at_some hk hj
theorem putWords_inv (h : Nat) : ∀ (l : List Nat) (S : St) (k : Nat), Inv S → Inv (putWords S h k l) ∧ (∀ h', (putWords S h k l).at h' = S.at h') ∧ (putWords S h k l).t = S.t
  | [], S, k, hi => ⟨hi, fun _ => rfl, rfl⟩
  | x :: r, S, k, hi => by
    obtain ⟨h1, h2, h3⟩ := putWords_inv h r (S.put h k x).2 (k + 1) (hi.put h k x)
    exact ⟨h1, fun h' => (h2 h').trans (hi.put_at h k x h'), h3.trans (put_t S h k x)⟩
theorem at_zero (S : St) : S.at 0 = (0, 0, 7) := St.at_none (by rfl)
theorem len_zero (S : St) : S.len 0 = (0, 7) := by unfold St.len; rw [at_zero]
end Go.Proofs.YtepdkbmnkjfcpaaGreatDoor
