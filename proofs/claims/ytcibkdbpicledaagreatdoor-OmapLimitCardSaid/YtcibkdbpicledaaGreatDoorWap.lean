import Derived.Test.YtcibkdbpicledaaGreatDoorWao
set_option maxRecDepth 100000
set_option maxHeartbeats 1600000
namespace Go.Proofs.YtcibkdbpicledaaGreatDoor
open Go.RowKit Go.BigFrame Go.Maps Go.WideMaps Lf
open Go.Shelf
attribute [local go_sem] Oper.semAt_some
theorem below5 (w : World) (a b c d e : Obj) : Below w.heap.size w (((((w.alloc a).alloc b).alloc c).alloc d).alloc e) :=
 (below4 w a b c d).alloc (by simp; omega) _
theorem Hx.drew {W : World} {B : Nat} {x : Head} (h : Hx W B x) : Hx W.drew B x := h
theorem Cx.drew {W : World} {B i : Nat} {v : Value} (h : Cx W B i v) : Cx W.drew B i v := h
theorem find_set {W w : World} {b1 b2 b3 b4 n : Nat} {v1 v2 v4 : Value} {y : Head} (p k : Nat) (x : Head) (h1 : Cx W b1 0 v1) (h2 : Cx W b2 0 v2) (h3 : Hx W b3 y) (h4 : Cx W b4 0 v4) (hb : Below w.heap.size w W) (m1 : ¬ b1 = b2) (m2 : ¬ b1 = b3) (m3 : ¬ b2 = b3) (m4 : ¬ b1 = b4) (m5 : ¬ b2 = b4) (m6 : ¬ b3 = b4) (hw : w.heap.size ≤ b1 ∧ w.heap.size ≤ b2 ∧ w.heap.size ≤ b3 ∧ w.heap.size ≤ b4) :
 KeepsFrom n W ((((((W.setCell ⟨b1, 0, none⟩ (.int .i64 p)).setCell ⟨b2, 0, none⟩ (.int .i64 k)).setCell ⟨b3, 0, none⟩ (.int .i64 x.kind)).setCell ⟨b3, 1, none⟩ (.int .i64 x.n)).setCell ⟨b3, 2, none⟩ (.int .u64 x.w)).setCell ⟨b4, 0, none⟩ (.bool true)).drew ∧
 (Cx ((((((W.setCell ⟨b1, 0, none⟩ (.int .i64 p)).setCell ⟨b2, 0, none⟩ (.int .i64 k)).setCell ⟨b3, 0, none⟩ (.int .i64 x.kind)).setCell ⟨b3, 1, none⟩ (.int .i64 x.n)).setCell ⟨b3, 2, none⟩ (.int .u64 x.w)).setCell ⟨b4, 0, none⟩ (.bool true)).drew b1 0 (.int .i64 p) ∧
  Cx ((((((W.setCell ⟨b1, 0, none⟩ (.int .i64 p)).setCell ⟨b2, 0, none⟩ (.int .i64 k)).setCell ⟨b3, 0, none⟩ (.int .i64 x.kind)).setCell ⟨b3, 1, none⟩ (.int .i64 x.n)).setCell ⟨b3, 2, none⟩ (.int .u64 x.w)).setCell ⟨b4, 0, none⟩ (.bool true)).drew b2 0 (.int .i64 k) ∧
  Hx ((((((W.setCell ⟨b1, 0, none⟩ (.int .i64 p)).setCell ⟨b2, 0, none⟩ (.int .i64 k)).setCell ⟨b3, 0, none⟩ (.int .i64 x.kind)).setCell ⟨b3, 1, none⟩ (.int .i64 x.n)).setCell ⟨b3, 2, none⟩ (.int .u64 x.w)).setCell ⟨b4, 0, none⟩ (.bool true)).drew b3 x ∧
  Cx ((((((W.setCell ⟨b1, 0, none⟩ (.int .i64 p)).setCell ⟨b2, 0, none⟩ (.int .i64 k)).setCell ⟨b3, 0, none⟩ (.int .i64 x.kind)).setCell ⟨b3, 1, none⟩ (.int .i64 x.n)).setCell ⟨b3, 2, none⟩ (.int .u64 x.w)).setCell ⟨b4, 0, none⟩ (.bool true)).drew b4 0 (.bool true)) ∧
 Below w.heap.size w ((((((W.setCell ⟨b1, 0, none⟩ (.int .i64 p)).setCell ⟨b2, 0, none⟩ (.int .i64 k)).setCell ⟨b3, 0, none⟩ (.int .i64 x.kind)).setCell ⟨b3, 1, none⟩ (.int .i64 x.n)).setCell ⟨b3, 2, none⟩ (.int .u64 x.w)).setCell ⟨b4, 0, none⟩ (.bool true)).drew := by
 have hx := ((h3.other (C := b1) (j := 0) (.int .i64 p) (Ne.symm m2)).other (C := b2) (j := 0) (.int .i64 k) (Ne.symm m3)).set x
 have hK := ((((((KeepsOthers.setCell W ⟨b1, 0, none⟩ (.int .i64 p)).trans (KeepsOthers.setCell _ ⟨b2, 0, none⟩ (.int .i64 k))).trans (KeepsOthers.setCell _ ⟨b3, 0, none⟩ (.int .i64 x.kind))).trans (KeepsOthers.setCell _ ⟨b3, 1, none⟩ (.int .i64 x.n))).trans (KeepsOthers.setCell _ ⟨b3, 2, none⟩ (.int .u64 x.w))).trans (KeepsOthers.setCell _ ⟨b4, 0, none⟩ (.bool true))).trans (KeepsOthers.drew _)
 refine ⟨hK.from n, ⟨?_, ?_, ?_, ?_⟩, ?_⟩
 · exact Cx.drew ((((((h1.set (.int .i64 p)).other _ m1).other _ m2).other _ m2).other _ m2).other _ m4)
 · exact Cx.drew ((((((h2.other _ (Ne.symm m1)).set (.int .i64 k)).other _ m3).other _ m3).other _ m3).other _ m5)
 · exact (hx.other _ m6).drew
 · exact Cx.drew ((((((h4.other _ (Ne.symm m4)).other _ (Ne.symm m5)).other _ (Ne.symm m6)).other _ (Ne.symm m6)).other _ (Ne.symm m6)).set (.bool true))
 · exact ((((((hb.setCell (p := ⟨b1, 0, none⟩) hw.1 _).setCell (p := ⟨b2, 0, none⟩) hw.2.1 _).setCell (p := ⟨b3, 0, none⟩) hw.2.2.1 _).setCell (p := ⟨b3, 1, none⟩) hw.2.2.1 _).setCell (p := ⟨b3, 2, none⟩) hw.2.2.1 _).setCell (p := ⟨b4, 0, none⟩) hw.2.2.2 _).drew
theorem hx_class (B : Nat) (y : Head) : ∃ I : World → Prop, (∀ W, Hx W B y → I W) ∧ (∀ W, I W → Hx W B y) := ⟨fun W => Hx W B y, fun _ h => h, fun _ h => h⟩
theorem heap_find {w : World} {ph pa pm : Nat} {s : Slab} {Y : Nat → Prop} (h : HeapOn w ph pa pm s Y) (addr : Nat) (ha : addr ≤ 4611686018427387903) :
 Calls Tryz.prog 117 #[PV ph, .int .i64 addr] w fun e w' => e = .returned (findV (findH s addr)) ∧ Below w.heap.size w w' := by
 refine (callsIn_wide (n := 7)).1 ?_
 have h1 : 1 ≤ 7 := by omega
 have hfS : Fence.wide.fn 129 := trivial
 have hfH : Fence.wide.fn 128 := trivial
 have hfF : Fence.wide.fn 149 := trivial
 have hfP : Fence.wide.fn 147 := trivial
 have hhd : ∀ W, CallsIn Fence.wide 6 Tryz.prog 128 #[PV ph] W _ := fun W => callsIn_wide.2 (heads_any ph W)
 obtain ⟨R, hR⟩ : ∃ R, findV (findH s addr) = R := ⟨_, rfl⟩
 rw [hR]
 have HR := kq2 hR h
 clear hR h
 refine callsIn_of_wp_marks Tryz.func117 rfl trivial ?_ rfl
 simp only [Tryz.ntmps117, List.size_toArray, List.length_cons, List.length_nil, Nat.reduceAdd, Nat.reduceSub, Array.replicate_succ, Array.replicate_zero, List.push_toArray, List.append_toArray, List.nil_append, List.cons_append]
 obtain ⟨W5, hW5⟩ : ∃ W5, (((((w.alloc (.cells #[.int .i64 addr] 3)).alloc (.cells #[.int .i64 0] 3)).alloc (.cells #[.int .i64 0] 3)).alloc (.cells #[.int .i64 0, .int .i64 0, .int .u64 0] 196)).alloc (.cells #[.bool false] 4)) = W5 := ⟨_, rfl⟩
 have hb5 : Below w.heap.size w W5 := by rw [← hW5]; exact below5 w _ _ _ _ _
 have c0 : Cx W5 w.heap.size 0 (.int .i64 addr) := by rw [← hW5]; exact ((((Bx.new w (.int .i64 addr) 3).alloc _).alloc _).alloc _).alloc _
 have c1 : Cx W5 (w.heap.size + 1) 0 (.int .i64 0) := by
  have := (((Bx.new (w.alloc (.cells #[.int .i64 addr] 3)) (.int .i64 0) 3).alloc (.cells #[.int .i64 0] 3)).alloc (.cells #[.int .i64 0, .int .i64 0, .int .u64 0] 196)).alloc (.cells #[.bool false] 4)
  rw [World.size_alloc, hW5] at this
  exact this
 have c2 : Cx W5 (w.heap.size + 1 + 1) 0 (.int .i64 0) := by
  have := ((Bx.new ((w.alloc (.cells #[.int .i64 addr] 3)).alloc (.cells #[.int .i64 0] 3)) (.int .i64 0) 3).alloc (.cells #[.int .i64 0, .int .i64 0, .int .u64 0] 196)).alloc (.cells #[.bool false] 4)
  rw [World.size_alloc, World.size_alloc, hW5] at this
  exact this
 have c3 : Hx W5 (w.heap.size + 1 + 1 + 1) ⟨0, 0, 0⟩ := by
  have := (Hx.new (((w.alloc (.cells #[.int .i64 addr] 3)).alloc (.cells #[.int .i64 0] 3)).alloc (.cells #[.int .i64 0] 3)) ⟨0, 0, 0⟩).alloc (.cells #[.bool false] 4)
  rw [World.size_alloc, World.size_alloc, World.size_alloc] at this
  rw [← hW5]
  exact this
 have c4 : Cx W5 (w.heap.size + 1 + 1 + 1 + 1) 0 (.bool false) := by
  have := Bx.new ((((w.alloc (.cells #[.int .i64 addr] 3)).alloc (.cells #[.int .i64 0] 3)).alloc (.cells #[.int .i64 0] 3)).alloc (.cells #[.int .i64 0, .int .i64 0, .int .u64 0] 196)) (.bool false) 4
  rw [World.size_alloc, World.size_alloc, World.size_alloc, World.size_alloc, hW5] at this
  exact this
 have hz5 : W5.heap.size = w.heap.size + 1 + 1 + 1 + 1 + 1 := by rw [← hW5]; simp
 have HC := kq7 hz5 hb5 c0 c1 c2 c3 c4
 clear hz5 hb5 c0 c1 c2 c3 c4
 gi_wp2_with fail
 try rw [hW5]
 clear hW5
 have HC := HC.out
 obtain ⟨b5, e5⟩ : ∃ b5, w.heap.size + 1 + 1 + 1 + 1 + 1 = b5 := ⟨_, rfl⟩
 try rw [e5]
 rw [e5] at HC
 obtain ⟨b4, e4⟩ : ∃ b4, w.heap.size + 1 + 1 + 1 + 1 = b4 := ⟨_, rfl⟩
 rw [e4]
 rw [e4] at HC
 obtain ⟨b3, e3⟩ : ∃ b3, w.heap.size + 1 + 1 + 1 = b3 := ⟨_, rfl⟩
 rw [e3]
 rw [e3] at HC
 obtain ⟨b2, e2⟩ : ∃ b2, w.heap.size + 1 + 1 = b2 := ⟨_, rfl⟩
 rw [e2]
 rw [e2] at HC
 obtain ⟨b1, e1⟩ : ∃ b1, w.heap.size + 1 = b1 := ⟨_, rfl⟩
 rw [e1]
 rw [e1] at HC
 obtain ⟨b0, e0⟩ : ∃ b0, w.heap.size = b0 := ⟨_, rfl⟩
 obtain ⟨hz5, hb5, c0, c1, c2, c3, c4⟩ := HC
 rw [e0]
 rw [e0] at c0
 have HB := Lib.hid (show w.heap.size = b0 ∧ b1 = b0 + 1 ∧ b2 = b0 + 2 ∧ b3 = b0 + 3 ∧ b4 = b0 + 4 ∧ b5 = b0 + 5 ∧ W5.heap.size = b5 from ⟨e0, by omega, by omega, by omega, by omega, by omega, hz5⟩)
 have H5 := kq6 hb5 c0 c1 c2 c3 c4
 clear hb5 c0 c1 c2 c3 c4 e0 e1 e2 e3 e4 e5
 refine (hhd _).mono ?_
 rintro e w7 ⟨rfl, rfl⟩
 rw [hz5]
 clear hz5
 gi_wp2_with fail
 obtain ⟨W0, hW0⟩ : ∃ W0, W5.alloc (.cells #[PV ph] 126) = W0 := ⟨_, rfl⟩
 rw [hW0]
 have hsz0 : W0.heap.size = b5 + 1 := by rw [← hW0, World.size_alloc, HB.out.2.2.2.2.2.2]
 have c5 : W0.cell? ⟨b5, 0, none⟩ = some (PV ph) := by
  have := (Bx.new W5 (PV ph) 126).1
  rw [HB.out.2.2.2.2.2.2, hW0] at this
  exact this
 have hbW : Below w.heap.size w W0 := by rw [← hW0]; exact H5.out.1.alloc H5.out.1.size _
 have C0 : Cx W0 b0 0 (.int .i64 addr) := by rw [← hW0]; exact H5.out.2.1.alloc _
 have C1 : Cx W0 b1 0 (.int .i64 0) := by rw [← hW0]; exact H5.out.2.2.1.alloc _
 have C2 : Cx W0 b2 0 (.int .i64 0) := by rw [← hW0]; exact H5.out.2.2.2.1.alloc _
 have C3 : Hx W0 b3 ⟨0, 0, 0⟩ := by rw [← hW0]; exact H5.out.2.2.2.2.1.alloc _
 have C4 : Cx W0 b4 0 (.bool false) := by rw [← hW0]; exact H5.out.2.2.2.2.2.alloc _
 clear hW0 H5
 have hW := HR.out.2.wide hbW
 refine wpIn_rangeFunc_ownH rfl h1 (gf := 151) (lb := #[PV b5]) rfl trivial (enters_of Tryz.func151 (by kernel_rfl) rfl)
  (heads_stops hW (Z := fun k => k = b1 ∨ k = b2 ∨ k = b3 ∨ k = b4) (fun k hk => by
   have h1 := HR.out.2.slab
   obtain ⟨blk, h1⟩ := h1
   have h1 := h1.yl _ HR.out.2.yh
   have h3 := HR.out.2.tab.lt
   have hb := HB.out
   refine ⟨Or.inr (by omega), by omega, ?_⟩
   show k ≠ 0
   omega) b5 c5 (by have hb := HB.out; omega)) KpZ.trans (fun W l o o' h1 h2 h3 h4 => KpZ.put W l o o' h1 h2 h3 h4) (Below.refl _ _) (fun _ => rfl)
  (fun pre W => (findIn addr (valsH pre) = none ∧ Cx W b0 0 (.int .i64 addr) ∧ Cx W b1 0 (.int .i64 0) ∧ Cx W b2 0 (.int .i64 0) ∧ Hx W b3 ⟨0, 0, 0⟩ ∧ Cx W b4 0 (.bool false)) ∧ Below w.heap.size w W)
  (fun cd pre W => (cd = .ret ∧ (∃ p k x, findIn addr (valsH pre) = some (p, k, x) ∧ Cx W b1 0 (.int .i64 p) ∧ Cx W b2 0 (.int .i64 k) ∧ Hx W b3 x) ∧ Cx W b4 0 (.bool true)) ∧ Below w.heap.size w W)
  (OwnFrom.and (Own.from (fun s A B row hs hg hr => ⟨hs.1, hs.2.1.kept hg hr, hs.2.2.1.kept hg hr, hs.2.2.2.1.kept hg hr, hs.2.2.2.2.1.kept hg hr, hs.2.2.2.2.2.kept hg hr⟩) _) (ownFrom_below (Nat.le_refl _) (by have hb := HB.out; omega)))
  (fun cd => OwnFrom.and (Own.from (fun s A B row hs hg hr => ⟨hs.1, (let ⟨p, k, x, k1, k2, k3, k4⟩ := hs.2.1; ⟨p, k, x, k1, k2.kept hg hr, k3.kept hg hr, k4.kept hg hr⟩), hs.2.2.kept hg hr⟩) _) (ownFrom_below (Nat.le_refl _) (by have hb := HB.out; omega)))
  ⟨⟨rfl, C0, C1, C2, C3, C4⟩, hbW⟩
  (fun x a' W => ∃ B, b4 < B ∧ Hx W B x.1.2 ∧ a' = { tmps := #[PV ph, .int .i64 addr, undef, PV b0, PV b1, PV b2, PV b3, PV b4, .int .i64 x.1.1, PV B, undef, undef, undef, PV ph, .func (.func 151) #[] #[PV b5], .int .i64 x.1.1, headV x.1.2, undef, undef, undef, undef, undef, undef, undef, undef, undef, undef, undef, undef, undef, undef, undef, undef, undef, undef, undef, undef, undef, undef, undef, undef, undef, undef, undef, undef, undef, undef, undef, undef, undef, undef, undef, undef, undef, undef, undef, undef, undef, undef, undef, undef, undef, undef, undef, undef, undef], defers := [] })
  (fun x a' _ X W' row hs hg hr => by
   obtain ⟨B, k1, k2, k3⟩ := hs
   exact ⟨B, k1, k2.kept hg (fun r e => (hr r e).2), k3⟩)
  ?assign ?body ?done ?stop
 case assign =>
  rintro l pre ⟨⟨p, kd, xn, xw⟩, hx⟩ W K ⟨⟨i0, i1, i2, i3, i4, i5⟩, hB⟩ hK
  have HH := kq7 i0 i1 i2 i3 i4 i5 hB
  have HK := Lib.hid hK
  clear i0 i1 i2 i3 i4 i5 hB hK
  simp only [encH, headV]
  gi_wp2
  have hBl := HH.out.2.2.2.2.2.2
  refine HK.out _ _ ((KeepsOthers.alloc _ _).from _) (KpZ.of_below ((Below.refl _ W).alloc (Nat.le_refl _) _)) ⟨⟨HH.out.1, HH.out.2.1.alloc _, HH.out.2.2.1.alloc _, HH.out.2.2.2.1.alloc _, HH.out.2.2.2.2.1.alloc _, HH.out.2.2.2.2.2.1.alloc _⟩, hBl.alloc hBl.size _⟩ ⟨W.heap.size, ?_, Hx.new W ⟨kd, xn, xw⟩, rfl⟩
  exact HH.out.2.2.2.2.2.1.lt
 case body =>
  rintro l pre ⟨⟨p, kd, xn, xw⟩, hx⟩ a' W hl hlr ⟨⟨i0, i1, i2, i3, i4, i5⟩, hB⟩ ⟨B, hBl, hbx, rfl⟩ hlt
  simp only at hx hbx
  obtain ⟨hx1', hx2', hx3', hx4'⟩ := hx
  have hv : ∀ (hx : _), valsH (pre ++ [(⟨(p, ⟨kd, xn, xw⟩), hx⟩ : HeadX)]) = valsH pre ++ [(p, ⟨kd, xn, xw⟩)] := fun hx => by
   show (pre ++ [(⟨(p, ⟨kd, xn, xw⟩), hx⟩ : HeadX)]).map (·.1) = _
   rw [List.map_append]
   rfl
  have hsn := findIn_snoc addr (p, ⟨kd, xn, xw⟩) (valsH pre) i0
  have hone := findIn_cons addr p ⟨kd, xn, xw⟩ []
  rw [← @hv ⟨hx1', hx2', hx3', hx4'⟩] at hsn
  have hf := hsn.trans hone
  clear hsn hone hv
  have a0 := i1.1
  obtain ⟨q1, g1⟩ := id i2
  obtain ⟨q2, g2⟩ := id i3
  obtain ⟨q3, g3⟩ := i4.c0
  obtain ⟨q4, g4⟩ := i4.c1
  obtain ⟨q5, g5⟩ := i4.c2
  obtain ⟨q6, g6⟩ := id i5
  have x0 := hbx.c0.1
  have x1 := hbx.c1.1
  have x2 := hbx.c2.1
  have HH := kq10 i0 i1 i2 i3 i4 i5 hB hbx hl hlr
  have HF := Lib.hid hf
  clear i0 i1 i2 i3 i4 i5 hB hf hbx hl hlr
  by_cases h2 : kd = 2 ∧ addr = p * 64 + 2
  · obtain ⟨rfl, rfl⟩ := h2
    gi_wp2_with fail
    have hb := HB.out
    have n1 : ¬ B = b1 := by omega
    have n2 : ¬ B = b2 := by omega
    have n3 : ¬ B = b3 := by omega
    have n4 : ¬ B = b4 := by omega
    have m1 : ¬ b1 = b2 := by omega
    have m2 : ¬ b1 = b3 := by omega
    have m3 : ¬ b2 = b3 := by omega
    have m4 : ¬ b1 = b4 := by omega
    have m5 : ¬ b2 = b4 := by omega
    have m6 : ¬ b3 = b4 := by omega
    clear hb
    obtain ⟨I, hIi, hIo⟩ := hx_class B ⟨2, xn, xw⟩
    have hx0 : ∀ x : Keeps I, x.to.cell? ⟨B, 0, none⟩ = some (.int .i64 2) := fun x => (hIo _ x.ok).c0.1
    have hx1 : ∀ x : Keeps I, x.to.cell? ⟨B, 1, none⟩ = some (.int .i64 xn) := fun x => (hIo _ x.ok).c1.1
    have hx2 : ∀ x : Keeps I, x.to.cell? ⟨B, 2, none⟩ = some (.int .u64 xw) := fun x => (hIo _ x.ok).c2.1
    have hI0 : I W.drew := hIi _ HH.out.2.2.2.2.2.2.2.1
    refine wpIn_region_plan I (.take 0 (.take 1 (.go 2 (.go 3 (.go 4 (.go 5 .nil)))))) (by kernel_rfl) (by kernel_rfl) (by kernel_rfl) hI0 ?_
    iterate 2
     refine' plan_take _ (by rfl) _ (by rfl) ?_ ?_
     rotate_left
     · rintro _ ⟨x, rfl⟩
       have hxhx0 := hx0 x
       have hxhx1 := hx1 x
       have hxhx2 := hx2 x
       go_simp
       try with_reducible rfl
     try simp only [pu]
    have hbI := HH.out.2.2.2.2.2.2.2.1
    have HI := kq2 hbI (hbI.other (j := 0) (.int .i64 p) n1)
    have HJ := kq2 (HI.out.2.other (j := 0) (.int .i64 0) n2) True.intro
    have HK := Lib.hid (((HJ.out.1.other (j := 0) (.int .i64 2) n3).other (j := 1) (.int .i64 xn) n3).other (j := 2) (.int .u64 xw) n3)
    have HL := Lib.hid (HK.out.other (j := 0) (.bool true) n4)
    clear hbI
    refine pD fun K hK => ?_
    go_simp
    try go_simp
    refine hK.out _ _ (hIi _ (by exact Hx.drew HI.out.2)) ?_
    clear hK K
    try simp only [pu]
    refine pD fun K hK => ?_
    go_simp
    try go_simp
    refine hK.out _ _ (hIi _ (by exact Hx.drew HJ.out.1)) ?_
    clear hK K
    try simp only [pu]
    refine pD fun K hK => ?_
    go_simp
    try go_simp
    refine hK.out _ _ (hIi _ (by exact Hx.drew HK.out)) ?_
    clear hK K
    try simp only [pu]
    refine pD fun K hK => ?_
    go_simp
    try go_simp
    refine hK.out _ _ (hIi _ (by exact Hx.drew HL.out)) ?_
    clear hK K
    try simp only [pu]
    refine plan_end ?_
    gi_wp2_with fail
    obtain ⟨r1, r2, r3⟩ := find_set (n := W0.heap.size) p 0 ⟨2, xn, xw⟩ HH.out.2.2.1 HH.out.2.2.2.1 HH.out.2.2.2.2.1 HH.out.2.2.2.2.2.1 HH.out.2.2.2.2.2.2.1 m1 m2 m3 m4 m5 m6 (by have hb := HB.out; omega)
    refine ⟨r1, ⟨rfl, ⟨p, 0, ⟨2, xn, xw⟩, ?_, r2.1, r2.2.1, r2.2.2.1⟩, r2.2.2.2⟩, r3⟩
    rw [HF.out, if_pos (by simp)]
  · have hd : ((kd : Int) == 2) = false ∨ (((kd : Int) == 2) = true ∧ ((addr : Int) == (p : Int) * 64 + 2) = false) := by
     by_cases e : kd = 2
     · refine Or.inr ⟨by rw [e]; rfl, ?_⟩
       have : ¬ addr = p * 64 + 2 := fun e2 => h2 ⟨e, e2⟩
       simp
       omega
     · exact Or.inl (by simp; omega)
    rw [if_neg h2] at HF
    have HD := Lib.hid hd
    clear hd h2
    by_cases h3 : kd ≠ 1 ∨ addr / 64 ≠ p
    · rw [if_pos h3] at HF
      have he : ((kd : Int) != 1) = true ∨ (((kd : Int) != 1) = false ∧ ((addr : Int) / 64 != (p : Int)) = true) := by
       by_cases e : kd = 1
       · refine Or.inr ⟨by rw [e]; rfl, ?_⟩
         have : ¬ addr / 64 = p := fun e2 => by rcases h3 with h3 | h3 <;> exact h3 (by assumption)
         simp
         omega
       · exact Or.inl (by simp; omega)
      have HE := Lib.hid he
      clear he h3
      have hfin : findIn addr (valsH (pre ++ [(⟨(p, ⟨kd, xn, xw⟩), ⟨hx1', hx2', hx3', hx4'⟩⟩ : HeadX)])) = none := HF.out
      have HN := Lib.hid hfin
      clear hfin
      rcases HD.out with hd | ⟨hd, hd'⟩ <;> rcases HE.out with he | ⟨he, he'⟩
      all_goals
       gi_wp2_with fail
       exact ⟨KeepsFrom.refl _ _, KpZ.refl _ _ _, ⟨HN.out, HH.out.2.1, HH.out.2.2.1, HH.out.2.2.2.1, HH.out.2.2.2.2.1, HH.out.2.2.2.2.2.1⟩, HH.out.2.2.2.2.2.2.1⟩
    · rw [if_neg h3] at HF
      have h3' : kd = 1 ∧ addr / 64 = p := ⟨by omega, by omega⟩
      obtain ⟨rfl, hp⟩ := h3'
      have hd : (((1 : Nat) : Int) == 2) = false := rfl
      have he : (((1 : Nat) : Int) != 1) = false := rfl
      have he' : ((addr : Int) / 64 != (p : Int)) = false := by simp; omega
      clear h3
      obtain ⟨er, hsr⟩ := slotsRes_nat xn
      have hsl : CallsIn Fence.wide 4 Tryz.prog 129 #[.int .i64 xn] W _ := callsIn_wide.2 (class_slots xn W)
      rw [hsr] at hsl
      have hcs := classSlots_le xn
      obtain ⟨m, hm⟩ : ∃ m, classSlots xn = m := ⟨_, rfl⟩
      rw [hm] at hsl hcs
      have HS := kq2 hsl hm
      clear hsl hsr hm
      gi_wp2_with fail
      refine (CallsIn.inRound l HS.out.1).mono ?_
      rintro e w2 ⟨rfl, hb2⟩
      have HW := Lib.hid hb2
      clear hb2
      gi_wp2_with fail
      clear a0 x0 x1 x2 q1 q2 q3 q4 q5 q6 g1 g2 g3 g4 g5 g6
      gi_loopw [12, 45] (fun _ i wr => ∃ k : Nat, k ≤ m ∧ i = .int .i64 k ∧ Hid (Below W.heap.size W wr ∧ ∀ j, j < k → (decide (placeH p xn j = addr) && bitOf xw j) = false)) (fun _ i _ => m - (intOf i).toNat)
      case atStart => exact ⟨0, by omega, rfl, Lib.hid ⟨HW.out, fun j hj => by omega⟩⟩
      case round =>
       obtain ⟨k, hk, rfl, hr⟩ := hrel
       by_cases hlt : k < m
       · have hlt' : (k : Int) < m := by omega
         have hbB := HH.out.2.2.2.2.2.2.2.1
         have hk2 := hbB.below hr.out.1 hbB.lt
         have hk0 := HH.out.2.1.below hr.out.1 HH.out.2.1.lt
         have hx0 : ∀ x : Keeps (Below wr.heap.size wr), x.to.cell? ⟨b0, 0, none⟩ = some (.int .i64 addr) := fun x => (hk0.below x.ok hk0.lt).1
         have hx1 : ∀ x : Keeps (Below wr.heap.size wr), x.to.cell? ⟨B, 1, none⟩ = some (.int .i64 xn) := fun x => (hk2.below x.ok hk2.lt).c1.1
         have hx2 : ∀ x : Keeps (Below wr.heap.size wr), x.to.cell? ⟨B, 2, none⟩ = some (.int .u64 xw) := fun x => (hk2.below x.ok hk2.lt).c2.1
         have hpl : ∀ x : Keeps (Below wr.heap.size wr), CallsIn Fence.wide 4 Tryz.prog 147 #[.int .i64 p, .int .i64 xn, .int .i64 k] x.to _ := fun x => CallsIn.keeps_below (callsIn_wide.2 (heap_place p xn k x.to (by omega) (by omega) (by omega)))
         have hha : ∀ x : Keeps (Below wr.heap.size wr), CallsIn Fence.wide 4 Tryz.prog 149 #[.int .u64 xw, .int .i64 k] x.to _ := fun x => CallsIn.keeps_same (callsIn_wide.2 (bits_has xw k x.to (by omega) (by omega)))
         obtain ⟨P, hP⟩ : ∃ P, placeH p xn k = P := ⟨_, rfl⟩
         obtain ⟨bt, hbt⟩ : ∃ bt, bitOf xw k = bt := ⟨_, rfl⟩
         rw [hP] at hpl
         rw [hbt] at hha
         have HP := kq5 hP hbt hr.out.1 hr.out.2 hbB
         have hsz := hr.out.1.size
         clear hP hbt hr hbB hk2 hk0
         by_cases hpa : P = addr
         · obtain rfl := hpa
           cases bt with
           | true =>
            gi_wp2_with fail
            refine wpIn_region_keeps (Below wr.heap.size wr) (by kernel_rfl) (by kernel_rfl) (by kernel_rfl) ⟨rfl, rfl, rfl, Nat.le_refl _, fun _ _ => rfl⟩ fun ⟨x0⟩ => ?_
            repeat (first | gi_big_quiet_skip | (gi_big_quiet_want; gi_big_quiet_op; first | go_big_quiet_on | (apply Exists.intro; refine ⟨fun x => ?_, ?_⟩; (· first | exact CallsIn.inRound l (hpl x) | exact CallsIn.inRound l (hha x)); go_big_quiet_on)))
            refine wpQuietIn_nil ?_
            rintro _ ⟨x, rfl⟩
            have hx := x.ok
            have i2 := (HH.out.2.2.1.below HP.out.2.2.1 HH.out.2.2.1.lt)
            have i3 := (HH.out.2.2.2.1.below HP.out.2.2.1 HH.out.2.2.2.1.lt)
            have i4 := (HH.out.2.2.2.2.1.below HP.out.2.2.1 HH.out.2.2.2.2.1.lt)
            have i5 := (HH.out.2.2.2.2.2.1.below HP.out.2.2.1 HH.out.2.2.2.2.2.1.lt)
            have ib := HP.out.2.2.2.2.below HP.out.2.2.1 HP.out.2.2.2.2.lt
            have bl := HH.out.2.2.2.2.2.2.1.trans ((HP.out.2.2.1.trans (hx.mono hsz)).mono HH.out.2.2.2.2.2.2.1.size)
            replace i2 := i2.below hx i2.lt
            replace i3 := i3.below hx i3.lt
            replace i4 := i4.below hx i4.lt
            replace i5 := i5.below hx i5.lt
            replace ib := ib.below hx ib.lt
            have hkf : KeepsFrom W0.heap.size W x.to := KeepsFrom.of_grownBy (grown_of_below (HP.out.2.2.1.trans (hx.mono hsz))) (fun j e => by cases e)
            generalize x.to = V at *
            clear hx0 hx1 hx2 hpl hha x x0 hx
            obtain ⟨q1, g1⟩ := id i2
            obtain ⟨q2, g2⟩ := id i3
            obtain ⟨q3, g3⟩ := i4.c0
            obtain ⟨q4, g4⟩ := i4.c1
            obtain ⟨q5, g5⟩ := i4.c2
            obtain ⟨q6, g6⟩ := id i5
            have HV := kq7 i2 i3 i4 i5 bl hkf ib
            clear i2 i3 i4 i5 bl hkf ib
            gi_wp2_with fail
            have hb := HB.out
            have n1 : ¬ B = b1 := by omega
            have n2 : ¬ B = b2 := by omega
            have n3 : ¬ B = b3 := by omega
            have n4 : ¬ B = b4 := by omega
            have m1 : ¬ b1 = b2 := by omega
            have m2 : ¬ b1 = b3 := by omega
            have m3 : ¬ b2 = b3 := by omega
            have m4 : ¬ b1 = b4 := by omega
            have m5 : ¬ b2 = b4 := by omega
            have m6 : ¬ b3 = b4 := by omega
            clear hb
            obtain ⟨I, hIi, hIo⟩ := hx_class B ⟨1, xn, xw⟩
            have hx0 : ∀ x : Keeps I, x.to.cell? ⟨B, 0, none⟩ = some (.int .i64 1) := fun x => (hIo _ x.ok).c0.1
            have hx1 : ∀ x : Keeps I, x.to.cell? ⟨B, 1, none⟩ = some (.int .i64 xn) := fun x => (hIo _ x.ok).c1.1
            have hx2 : ∀ x : Keeps I, x.to.cell? ⟨B, 2, none⟩ = some (.int .u64 xw) := fun x => (hIo _ x.ok).c2.1
            have hI0 : I V.drew := hIi _ HV.out.2.2.2.2.2.2
            refine wpIn_region_plan I (.take 0 (.take 1 (.take 2 (.go 3 (.go 4 (.go 5 (.go 6 .nil))))))) (by kernel_rfl) (by kernel_rfl) (by kernel_rfl) hI0 ?_
            iterate 3
             refine' plan_take _ (by rfl) _ (by rfl) ?_ ?_
             rotate_left
             · rintro _ ⟨x, rfl⟩
               have hxhx0 := hx0 x
               have hxhx1 := hx1 x
               have hxhx2 := hx2 x
               go_simp
               try with_reducible rfl
             try simp only [pu]
            have hbI := HV.out.2.2.2.2.2.2
            have HI := kq2 hbI (hbI.other (j := 0) (.int .i64 p) n1)
            have HJ := kq2 (HI.out.2.other (j := 0) (.int .i64 k) n2) True.intro
            have HK := Lib.hid (((HJ.out.1.other (j := 0) (.int .i64 1) n3).other (j := 1) (.int .i64 xn) n3).other (j := 2) (.int .u64 xw) n3)
            have HL := Lib.hid (HK.out.other (j := 0) (.bool true) n4)
            clear hbI
            refine pD fun K hK => ?_
            go_simp
            try go_simp
            refine hK.out _ _ (hIi _ (by exact Hx.drew HI.out.2)) ?_
            clear hK K
            try simp only [pu]
            refine pD fun K hK => ?_
            go_simp
            try go_simp
            refine hK.out _ _ (hIi _ (by exact Hx.drew HJ.out.1)) ?_
            clear hK K
            try simp only [pu]
            refine pD fun K hK => ?_
            go_simp
            try go_simp
            refine hK.out _ _ (hIi _ (by exact Hx.drew HK.out)) ?_
            clear hK K
            try simp only [pu]
            refine pD fun K hK => ?_
            go_simp
            try go_simp
            refine hK.out _ _ (hIi _ (by exact Hx.drew HL.out)) ?_
            clear hK K
            try simp only [pu]
            refine plan_end ?_
            gi_wp2_with fail
            obtain ⟨r1, r2, r3⟩ := find_set (n := W0.heap.size) p k ⟨1, xn, xw⟩ HV.out.1 HV.out.2.1 HV.out.2.2.1 HV.out.2.2.2.1 HV.out.2.2.2.2.1 m1 m2 m3 m4 m5 m6 (by have hb := HB.out; omega)
            have hfi : findIn P (valsH (pre ++ [(⟨(p, ⟨1, xn, xw⟩), ⟨hx1', hx2', hx3', hx4'⟩⟩ : HeadX)])) = some (p, k, ⟨1, xn, xw⟩) := by
             rw [HF.out]
             have hs : slotAt P p ⟨1, xn, xw⟩ = some k := by
              unfold slotAt
              exact find_range_some (by rw [HS.out.2]; exact hlt) (by simp [HP.out.1, HP.out.2.1]) HP.out.2.2.2.1
             rw [hs]
            exact ⟨HV.out.2.2.2.2.2.1.trans r1, ⟨rfl, ⟨p, k, ⟨1, xn, xw⟩, hfi, r2.1, r2.2.1, r2.2.2.1⟩, r2.2.2.2⟩, r3⟩
           | false =>
            gi_wp2_with fail
            refine wpIn_region_keeps (Below wr.heap.size wr) (by kernel_rfl) (by kernel_rfl) (by kernel_rfl) ⟨rfl, rfl, rfl, Nat.le_refl _, fun _ _ => rfl⟩ fun ⟨x0⟩ => ?_
            repeat (first | gi_big_quiet_skip | (gi_big_quiet_want; gi_big_quiet_op; first | go_big_quiet_on | (apply Exists.intro; refine ⟨fun x => ?_, ?_⟩; (· first | exact CallsIn.inRound l (hpl x) | exact CallsIn.inRound l (hha x)); go_big_quiet_on)))
            refine wpQuietIn_nil ?_
            rintro _ ⟨x, rfl⟩
            have hx := HP.out.2.2.1.trans (x.ok.mono hsz)
            generalize x.to = V at *
            gi_wp2_with fail
            exact ⟨⟨k + 1, by omega, by simp, Lib.hid ⟨hx, fun j hj => by
             by_cases hjk : j < k
             · exact HP.out.2.2.2.1 j hjk
             · obtain rfl : j = k := by omega
               rw [HP.out.2.1]; simp⟩⟩, by simp [intOf]; omega⟩
         · have hne : ((P : Int) == addr) = false := by simp; omega
           gi_wp2_with fail
           refine wpIn_region_keeps (Below wr.heap.size wr) (by kernel_rfl) (by kernel_rfl) (by kernel_rfl) ⟨rfl, rfl, rfl, Nat.le_refl _, fun _ _ => rfl⟩ fun ⟨x0⟩ => ?_
           repeat (first | gi_big_quiet_skip | (gi_big_quiet_want; gi_big_quiet_op; first | go_big_quiet_on | (apply Exists.intro; refine ⟨fun x => ?_, ?_⟩; (· first | exact CallsIn.inRound l (hpl x) | exact CallsIn.inRound l (hha x)); go_big_quiet_on)))
           refine wpQuietIn_nil ?_
           rintro _ ⟨x, rfl⟩
           have hx := HP.out.2.2.1.trans (x.ok.mono hsz)
           generalize x.to = V at *
           gi_wp2_with fail
           exact ⟨⟨k + 1, by omega, by simp, Lib.hid ⟨hx, fun j hj => by
            by_cases hjk : j < k
            · exact HP.out.2.2.2.1 j hjk
            · obtain rfl : j = k := by omega
              rw [HP.out.1]; simp [hpa]⟩⟩, by simp [intOf]; omega⟩
       · obtain rfl : k = m := by omega
         have hfi : findIn addr (valsH (pre ++ [(⟨(p, ⟨1, xn, xw⟩), ⟨hx1', hx2', hx3', hx4'⟩⟩ : HeadX)])) = none := by
          rw [HF.out]
          have hs : slotAt addr p ⟨1, xn, xw⟩ = none := by
           unfold slotAt
           exact find_range_none (fun j hj => hr.out.2 j (by rw [HS.out.2] at hj; exact hj))
          rw [hs]
          rfl
         have HN := kq2 hfi hr.out.1
         clear hfi hr
         gi_wp2_with fail
         exact ⟨KeepsFrom.of_grownBy (grown_of_below HN.out.2) (fun j e => by cases e), KpZ.of_below HN.out.2, ⟨HN.out.1, HH.out.2.1.below HN.out.2 HH.out.2.1.lt, HH.out.2.2.1.below HN.out.2 HH.out.2.2.1.lt, HH.out.2.2.2.1.below HN.out.2 HH.out.2.2.2.1.lt, HH.out.2.2.2.2.1.below HN.out.2 HH.out.2.2.2.2.1.lt, HH.out.2.2.2.2.2.1.below HN.out.2 HH.out.2.2.2.2.2.1.lt⟩, HH.out.2.2.2.2.2.2.1.trans (HN.out.2.mono HH.out.2.2.2.2.2.2.1.size)⟩
 case done =>
  rintro D ys W hD hS ⟨⟨i0, i1, i2, i3, i4, i5⟩, hB⟩ hK
  obtain ⟨k1, f1⟩ := id i2
  obtain ⟨k2, f2⟩ := id i3
  obtain ⟨k3, f3⟩ := i4.c0
  obtain ⟨k4, f4⟩ := i4.c1
  obtain ⟨k5, f5⟩ := i4.c2
  obtain ⟨k6, f6⟩ := id i5
  have hb := HB.out
  have m1 : ¬ b1 = b2 := by omega
  have m2 : ¬ b1 = b3 := by omega
  have m3 : ¬ b2 = b3 := by omega
  have m4 : ¬ b1 = b4 := by omega
  have m5 : ¬ b2 = b4 := by omega
  have m6 : ¬ b3 = b4 := by omega
  have hw : w.heap.size ≤ b1 ∧ w.heap.size ≤ b2 ∧ w.heap.size ≤ b3 ∧ w.heap.size ≤ b4 := by omega
  clear hb
  have HH := kq5 i2 i3 i4 i5 hB
  rw [hS] at i0
  have hRe : R = .tuple #[.int .i64 0, .int .i64 0, .agg #[.int .i64 0, .int .i64 0, .int .u64 0], .bool false] := by
   rw [← HR.out.1]
   unfold findH
   rw [i0]
   rfl
  clear i0 i1 i2 i3 i4 i5 hB hS
  gi_wp2
  have hK' := ((((((KeepsOthers.setCell W ⟨b1, 0, none⟩ (.int .i64 0)).trans (KeepsOthers.setCell _ ⟨b2, 0, none⟩ (.int .i64 0))).trans (KeepsOthers.setCell _ ⟨b3, 0, none⟩ (.int .i64 0))).trans (KeepsOthers.setCell _ ⟨b3, 1, none⟩ (.int .i64 0))).trans (KeepsOthers.setCell _ ⟨b3, 2, none⟩ (.int .u64 0))).trans (KeepsOthers.setCell _ ⟨b4, 0, none⟩ (.bool false))).same D _ hK rfl
  refine ⟨by simp, .inl ⟨_, _, rfl, run_takeDeferred hK', ?_⟩⟩
  have r1 := (((((((HH.out.1.set (.int .i64 0)).other (.int .i64 0) m1).other (j := 0) (.int .i64 0) m2).other (j := 1) (.int .i64 0) m2).other (j := 2) (.int .u64 0) m2).other (j := 0) (.bool false) m4).put (o' := .deferred none) hK' rfl).1
  have r2 := (((((((HH.out.2.1.other (j := 0) (.int .i64 0) (Ne.symm m1)).set (.int .i64 0)).other (j := 0) (.int .i64 0) m3).other (j := 1) (.int .i64 0) m3).other (j := 2) (.int .u64 0) m3).other (j := 0) (.bool false) m5).put (o' := .deferred none) hK' rfl).1
  have hx3 := ((((HH.out.2.2.1.other (C := b1) (j := 0) (.int .i64 0) (Ne.symm m2)).other (C := b2) (j := 0) (.int .i64 0) (Ne.symm m3)).set ⟨0, 0, 0⟩).other (C := b4) (j := 0) (.bool false) m6)
  have hx4 := hx3.put (o' := .deferred none) hK' rfl
  have r3 := hx4.c0.1
  have r4 := hx4.c1.1
  have r5 := hx4.c2.1
  have r6 := (((((((HH.out.2.2.2.1.other (j := 0) (.int .i64 0) (Ne.symm m4)).other (j := 0) (.int .i64 0) (Ne.symm m5)).other (j := 0) (.int .i64 0) (Ne.symm m6)).other (j := 1) (.int .i64 0) (Ne.symm m6)).other (j := 2) (.int .u64 0) (Ne.symm m6)).set (.bool false)).put (o' := .deferred none) hK' rfl).1
  clear hx3 hx4
  dsimp only at r3 r4 r5
  rw [show ((0 : Nat) : Int) = 0 from rfl] at r3 r4 r5
  subst hRe
  refine ⟨.tuple #[.int .i64 0, .int .i64 0, .agg #[.int .i64 0, .int .i64 0, .int .u64 0], .bool false], ?_, rfl, ((((((HH.out.2.2.2.2.setCell (p := ⟨b1, 0, none⟩) hw.1 _).setCell (p := ⟨b2, 0, none⟩) hw.2.1 _).setCell (p := ⟨b3, 0, none⟩) hw.2.2.1 _).setCell (p := ⟨b3, 1, none⟩) hw.2.2.1 _).setCell (p := ⟨b3, 2, none⟩) hw.2.2.1 _).setCell (p := ⟨b4, 0, none⟩) hw.2.2.2 _).trans (belowK_b (w := w) (Nat.le_refl _) _ D _ _ (by have hb := HB.out; omega) hK' rfl rfl)⟩
  simp [results, Tryz.f117, go_sem, r1, r2, r3, r4, r5, r6]
 case stop =>
  rintro D cd pre W hD hpre ⟨⟨rfl, ⟨p, k, x, hpk, hb1, hb2, hb3⟩, hb4⟩, hB⟩ hK
  obtain ⟨t, ht⟩ := hpre
  have hRe : R = .tuple #[.int .i64 p, .int .i64 k, .agg #[.int .i64 x.kind, .int .i64 x.n, .int .u64 x.w], .bool true] := by
   rw [← HR.out.1]
   unfold findH
   rw [← ht, findIn_some addr (p, k, x) _ t hpk]
   rfl
  have HH := Lib.hid hB
  have r1 := (hb1.put (o' := .deferred none) hK rfl).1
  have r2 := (hb2.put (o' := .deferred none) hK rfl).1
  have hx4 := hb3.put (o' := .deferred none) hK rfl
  have r3 := hx4.c0.1
  have r4 := hx4.c1.1
  have r5 := hx4.c2.1
  have r6 := (hb4.put (o' := .deferred none) hK rfl).1
  clear hpk ht hb1 hb2 hb3 hb4 hB hx4
  subst hRe
  gi_wp2
  refine ⟨by simp, .inl ⟨_, _, rfl, run_takeDeferred hK, ?_⟩⟩
  refine ⟨.tuple #[.int .i64 p, .int .i64 k, .agg #[.int .i64 x.kind, .int .i64 x.n, .int .u64 x.w], .bool true], ?_, rfl, HH.out.trans (belowK_b (w := w) (Nat.le_refl _) W D _ _ (by have hb := HB.out; omega) hK rfl rfl)⟩
  simp [results, Tryz.f117, go_sem, r1, r2, r3, r4, r5, r6]
end Go.Proofs.YtcibkdbpicledaaGreatDoor
namespace Go.Proofs.YtcibkdbpicledaaGreatDoor
open Go.RowKit Go.BigFrame Go.Maps Go.WideMaps Lf
theorem slab_release_big {w : World} {pa pm : Nat} {s : Slab} {Y : Nat → Prop} {blk : Nat → Nat} (h : SlabOn w pa pm s Y blk) (p n : Nat) (hg : 4096 < n) :
 Calls Tryz.prog 118 #[PV pa, .int .i64 p, .int .i64 n] w fun e w' => e = .returned (.int .i64 ((s.release p n).1 : Nat)) ∧ SlabOn w' pa pm (s.release p n).2 Y blk ∧ Keep Y w w' := by
 have hno := Lib.hid (slab_none h)
 have he : s.release p n = (2, s) := by unfold Slab.release; rw [if_pos (by omega)]
 rw [he]
 have H := Lib.hid h
 have hg1 : 1 ≤ n := by omega
 clear h he
 go_enter Tryz.func118, Tryz.ntmps118
 go_wp2_with fail
 refine hno.out.mono ?_
 rintro e w' ⟨rfl, rfl⟩
 go_wp2_with fail
 go_ret
 exact ⟨rfl, H.out, Keep.refl _ _⟩
theorem HeapOn.release {w : World} {ph pa pm : Nat} {s : Slab} {Y : Nat → Prop} (h : HeapOn w ph pa pm s Y) (p n : Nat) (hp : p ≤ 1048575) :
 Calls Tryz.prog 118 #[PV pa, .int .i64 p, .int .i64 n] w fun e w' => e = .returned (.int .i64 ((s.release p n).1 : Nat)) ∧ HeapOn w' ph pa pm (s.release p n).2 Y ∧ Keep Y w w' := by
 obtain ⟨blk, hs⟩ := h.slab
 by_cases hn : n ≤ 100000000
 · refine (slab_release hs p n hp hn).mono ?_
   rintro e w' ⟨he, h1, h2⟩
   exact ⟨he, h.step ⟨blk, h1⟩ h2, h2⟩
 · refine (slab_release_big hs p n (by omega)).mono ?_
   rintro e w' ⟨he, h1, h2⟩
   exact ⟨he, h.step ⟨blk, h1⟩ h2, h2⟩
theorem head_eql (a b c d e f : Int) (W : World) : (binOp .eql 196 (.agg #[.int .i64 a, .int .i64 b, .int .u64 c]) (.agg #[.int .i64 d, .int .i64 e, .int .u64 f])).run Tryz.prog W = .ok (.bool (decide (a = d ∧ b = e ∧ c = f))) W := by
 go_simp
 by_cases h1 : a = d <;> by_cases h2 : b = e <;> by_cases h3 : c = f <;> simp [h1, h2, h3]
theorem bitClear_lt {w k : Nat} (hw : w < 18446744073709551616) : bitClear w k < 18446744073709551616 := Nat.lt_of_le_of_lt Nat.and_le_left hw
theorem heap_leave {w : World} {ph pa pm : Nat} {s : Slab} {Y : Nat → Prop} (h : HeapOn w ph pa pm s Y) (p k : Nat) (hp : p ≤ 1048575) (hk : k < 64) :
 Calls Tryz.prog 119 #[PV ph, .int .i64 p, .int .i64 k] w fun e w' => e = .returned (.tuple #[]) ∧ HeapOn w' ph pa pm (leaveH s p k) Y ∧ Keep Y w w' := by
 have hgl := getH_lt h p
 have hget := heap_get h p (by omega)
 have ht : leaveH s p k = if (⟨(getH s p).kind, (getH s p).n, bitClear (getH s p).w k⟩ : Head) = ⟨1, (getH s p).n, 0⟩ then ((putH s p ⟨(getH s p).kind, (getH s p).n, bitClear (getH s p).w k⟩).release p 1).2 else putH s p ⟨(getH s p).kind, (getH s p).n, bitClear (getH s p).w k⟩ := rfl
 rw [ht]
 clear ht
 generalize getH s p = x at *
 obtain ⟨kd, xn, xw⟩ := x
 simp only at hgl hget ⊢
 obtain ⟨hg1, hg2, hg3⟩ := hgl
 have hset := fun W => bits_clear xw k W hg3 hk
 have hbl := bitClear_lt (k := k) hg3
 have hput : ∀ W, HeapOn W ph pa pm s Y → _ := fun W hW => heap_put (hW.own (.cells #[.int .i64 kd, .int .i64 xn, .int .u64 (bitClear xw k : Nat)] 196)) p ⟨kd, xn, bitClear xw k⟩ (by omega) hg1 hg2 hbl
 simp only [headV] at hget hput
 generalize bitClear xw k = bs at *
 generalize putH s p ⟨kd, xn, bs⟩ = s1 at *
 have hrel := fun W (hW : HeapOn W ph pa pm s1 Y) => hW.release p 1 hp
 obtain ⟨B, hB⟩ : ∃ B, decide ((kd : Int) = 1 ∧ (xn : Int) = xn ∧ (bs : Int) = 0) = B := ⟨_, rfl⟩
 have hql := fun W => head_eql kd xn bs 1 xn 0 W
 rw [hB] at hql
 have hBe : ((⟨kd, xn, bs⟩ : Head) = ⟨1, xn, 0⟩) = (B = true) := by
  rw [← hB]
  simp
  omega
 simp only [hBe]
 have hc := h.cell
 have HG := kq5 hget hset hput hrel h
 clear hget hset hput hrel h hB hBe
 go_enter Tryz.func119, Tryz.ntmps119
 go_wp2_with fail
 refine HG.out.1.mono ?_
 rintro e w1 ⟨rfl, hb1⟩
 have H1 := kq2 (HG.out.2.2.2.2.below hb1) (HG.out.2.2.2.2.keep hb1)
 clear hb1
 go_wp2_with fail
 refine (HG.out.2.1 _).mono ?_
 rintro e w2 ⟨rfl, rfl⟩
 go_wp2_with fail
 refine (HG.out.2.2.1 w1 H1.out.1).mono ?_
 rintro e w3 ⟨rfl, h3, k3⟩
 have hnew : (w1.alloc (.cells #[.int .i64 kd, .int .i64 xn, .int .u64 (bs : Nat)] 196)).heap[w1.heap.size]? = some (.cells #[.int .i64 kd, .int .i64 xn, .int .u64 (bs : Nat)] 196 (0, 0)) := by
  show (w1.heap.push _)[w1.heap.size]? = _; simp
 have hn3 := (k3.block w1.heap.size (Or.inr rfl)).trans hnew
 obtain ⟨b0, b1, b2⟩ := cells3 hn3
 have hka : Keep Y w1 (w1.alloc (.cells #[.int .i64 kd, .int .i64 xn, .int .u64 (bs : Nat)] 196)) := H1.out.1.keep ((Below.refl _ w1).alloc (Nat.le_refl _) _)
 have h3' := h3.mono (fun k hk => Or.inl hk) HG.out.2.2.2.2.yh HG.out.2.2.2.2.yt
 have c3 := h3'.cell
 have H3 := kq2 h3' (H1.out.2.trans (hka.trans (k3.mono fun k hk => Or.inl hk)))
 clear h3 k3 hnew hka hn3 h3'
 cases B with
 | true =>
  go_wp2_with fail
  refine (HG.out.2.2.2.1 _ H3.out.1).mono ?_
  rintro e w4 ⟨rfl, h4, k4⟩
  have H4 := kq2 h4 (H3.out.2.trans k4)
  clear h4 k4
  go_wp2_with fail
  go_end0
  exact ⟨rfl, H4.out⟩
 | false =>
  go_wp2_with fail
  go_end0
  exact ⟨rfl, H3.out⟩
theorem findIn_mem (addr : Nat) {p k : Nat} {x : Head} : ∀ l : List (Nat × Head), findIn addr l = some (p, k, x) → (p, x) ∈ l ∧ k < 64
 | (q, y) :: l, h => by
  rw [findIn_cons] at h
  split at h
  · injection h with h
    injection h with h1 h2
    injection h2 with h2 h3
    subst h1 h2 h3
    exact ⟨by simp, by omega⟩
  · split at h
    · exact ⟨List.mem_cons_of_mem _ (findIn_mem addr l h).1, (findIn_mem addr l h).2⟩
    · split at h
      · rename_i j hj
        injection h with h
        injection h with h1 h2
        injection h2 with h2 h3
        subst h1 h2 h3
        refine ⟨by simp, ?_⟩
        unfold slotAt at hj
        have h4 := List.mem_of_find?_eq_some hj
        have h5 := classSlots_le y.n
        have h6 := List.mem_range.1 h4
        omega
      · exact ⟨List.mem_cons_of_mem _ (findIn_mem addr l h).1, (findIn_mem addr l h).2⟩
theorem findH_at {w : World} {ph pa pm : Nat} {s : Slab} {Y : Nat → Prop} (h : HeapOn w ph pa pm s Y) {addr p k : Nat} {x : Head} (hf : findH s addr = some (p, k, x)) : p ≤ 1048575 ∧ k < 64 ∧ x.kind < 256 ∧ x.n < 72057594037927936 ∧ x.w < 18446744073709551616 := by
 obtain ⟨h1, h2⟩ := findIn_mem addr _ hf
 obtain ⟨h3, h4⟩ := mem_headsFrom _ _ h1
 have h5 := getH_lt h p
 simp only at h3 h4
 rw [← h4] at h5
 exact ⟨h.wf.top p h3, h2, h5⟩
theorem heap_free {w : World} {ph pa pm : Nat} {s : Slab} {Y : Nat → Prop} (h : HeapOn w ph pa pm s Y) (addr : Nat) (ha : addr ≤ 4611686018427387903) :
 Calls Tryz.prog 93 #[PV ph, .int .i64 addr] w fun e w' => e = .returned (.int .i64 ((freeH s addr).1 : Nat)) ∧ HeapOn w' ph pa pm (freeH s addr).2 Y ∧ Keep Y w w' := by
 have hno := heap_none h
 have hfd := heap_find h addr ha
 obtain ⟨R, hR⟩ : ∃ R, freeH s addr = R := ⟨_, rfl⟩
 rw [hR]
 cases hf : findH s addr with
 | none =>
  rw [hf] at hfd
  have hRe : R = (5, s) := by rw [← hR]; unfold freeH; rw [hf]
  simp only [findV, headV] at hfd
  have HG := kq4 hno hfd hRe h
  clear hno hfd hRe h hR hf
  go_enter Tryz.func93, Tryz.ntmps93
  go_wp2_with fail
  refine HG.out.1.mono ?_
  rintro e w1 ⟨rfl, rfl⟩
  go_wp2_with fail
  refine HG.out.2.1.mono ?_
  rintro e w1 ⟨rfl, hb1⟩
  have hb2 := hb1.alloc hb1.size (.cells #[.int .i64 (0 : Nat), .int .i64 (0 : Nat), .int .u64 (0 : Nat)] 196)
  have H1 := kq2 (HG.out.2.2.2.below hb2) (HG.out.2.2.2.keep hb2)
  clear hb1 hb2
  go_wp2_with fail
  go_ret
  obtain rfl := HG.out.2.2.1
  exact ⟨rfl, H1.out⟩
 | some r =>
  obtain ⟨p, k, x⟩ := r
  have hat := findH_at h hf
  rw [hf] at hfd
  have hRe : R = if x.kind = 2 then s.release p x.n else (0, leaveH s p k) := by rw [← hR]; unfold freeH; rw [hf]
  obtain ⟨kd, xn, xw⟩ := x
  simp only [findV, headV] at hfd hat hRe
  obtain ⟨h1, h2, h3, h4, h5⟩ := hat
  have hrel := fun W Z (hW : HeapOn W ph pa pm s Z) => hW.release p xn h1
  have hlv := fun W (hW : HeapOn W ph pa pm s Y) => heap_leave hW p k h1 h2
  have HG := kq6 hno hfd hRe h hrel hlv
  clear hno hfd hRe h hrel hlv hR hf
  by_cases hk2 : kd = 2
  · obtain rfl := hk2
    go_enter Tryz.func93, Tryz.ntmps93
    go_wp2_with fail
    refine HG.out.1.mono ?_
    rintro e w1 ⟨rfl, rfl⟩
    go_wp2_with fail
    refine HG.out.2.1.mono ?_
    rintro e w1 ⟨rfl, hb1⟩
    have ho := (HG.out.2.2.2.1.below hb1).own (.cells #[.int .i64 (2 : Nat), .int .i64 xn, .int .u64 (xw : Nat)] 196)
    have hb2 := hb1.alloc hb1.size (.cells #[.int .i64 (2 : Nat), .int .i64 xn, .int .u64 (xw : Nat)] 196)
    have hnew := heap_alloc_new w1 (.cells #[.int .i64 (2 : Nat), .int .i64 xn, .int .u64 (xw : Nat)] 196)
    have hlt := hb1.size
    have H1 := kq3 ho (HG.out.2.2.2.1.keep hb2) hnew
    clear hb1 hb2 ho
    go_wp2_with fail
    generalize w1.alloc (.cells #[.int .i64 (2 : Nat), .int .i64 xn, .int .u64 (xw : Nat)] 196) = W at *
    obtain ⟨I, hIi, hIo⟩ : ∃ I : World → Prop, (∀ W', HeapOn W' ph pa pm s (And1 Y w1.heap.size) ∨ HeapOn W' ph pa pm (s.release p xn).2 (And1 Y w1.heap.size) → W'.heap[w1.heap.size]? = some (.cells #[.int .i64 (2 : Nat), .int .i64 xn, .int .u64 (xw : Nat)] 196 (0, 0)) → I W') ∧ (∀ W', I W' → W'.cell? ⟨ph, 0, none⟩ = some (PV pa) ∧ W'.heap[w1.heap.size]? = some (.cells #[.int .i64 (2 : Nat), .int .i64 xn, .int .u64 (xw : Nat)] 196 (0, 0))) :=
     ⟨fun W' => W'.cell? ⟨ph, 0, none⟩ = some (PV pa) ∧ W'.heap[w1.heap.size]? = some (.cells #[.int .i64 (2 : Nat), .int .i64 xn, .int .u64 (xw : Nat)] 196 (0, 0)), fun W' h1 h2 => ⟨h1.elim (·.cell) (·.cell), h2⟩, fun W' h => h⟩
    have hx0 : ∀ x : Keeps I, x.to.cell? ⟨ph, 0, none⟩ = some (PV pa) := fun x => (hIo _ x.ok).1
    have hq := fun x : Keeps I => (hIo _ x.ok).2
    obtain ⟨hb0, hb1, hb2⟩ := cellsX3 hq
    have hI0 : I W.drew := hIi _ (Or.inl (H1.out.1.drewN 1)) hnew
    clear hnew
    refine wp_region_plan I (.take 0 (.take 1 (.take 2 (.take 3 (.take 4 (.take 5 (.take 6 (.go 7 (.take 8 .nil))))))))) (by kernel_rfl) (by kernel_rfl) hI0 ?_
    iterate 7
     refine' plan_take _ (by rfl) _ (by rfl) ?_ ?_
     rotate_left
     · rintro _ ⟨x, rfl⟩
       have hxhx0 := hx0 x
       have hxhb1 := hb1 x
       go_simp
       try with_reducible rfl
     try simp only [pu]
    refine pD fun K hK => ?_
    go_simp
    refine (HG.out.2.2.2.2.1 _ _ (H1.out.1.drewN 1)).mono ?_
    rintro e w2 ⟨rfl, ho2, hk2⟩
    have hn2 := (hk2.block w1.heap.size (Or.inr rfl)).trans H1.out.2.2
    have hk3 : Keep Y w w2 := H1.out.2.1.trans ((H1.out.1.keep (Below.refl _ _).drew).trans hk2 |>.mono fun k hk => Or.inl hk)
    have H2 := kq2 (ho2.mono (fun k hk => Or.inl hk) HG.out.2.2.2.1.yh HG.out.2.2.2.1.yt) hk3
    try go_simp
    refine hK.out _ _ (hIi _ (Or.inr ho2) hn2) ?_
    clear hK K
    try simp only [pu]
    clear hk2 ho2 hn2 hk3
    refine' plan_take _ (by rfl) _ (by rfl) ?_ ?_
    rotate_left
    · rintro _ ⟨x, rfl⟩
      go_simp
      try with_reducible rfl
    try simp only [pu]
    refine plan_nil ?_
    go_wp2_with fail
    go_ret
    have hRe := HG.out.2.2.1
    rw [if_pos trivial] at hRe
    subst hRe
    exact ⟨rfl, H2.out⟩
  · have hne : ((kd : Int) == 2) = false := by simp; omega
    go_enter Tryz.func93, Tryz.ntmps93
    go_wp2_with fail
    refine HG.out.1.mono ?_
    rintro e w1 ⟨rfl, rfl⟩
    go_wp2_with fail
    refine HG.out.2.1.mono ?_
    rintro e w1 ⟨rfl, hb1⟩
    have hb2 := hb1.alloc hb1.size (.cells #[.int .i64 kd, .int .i64 xn, .int .u64 xw] 196)
    have H1 := kq2 (HG.out.2.2.2.1.below hb2) (HG.out.2.2.2.1.keep hb2)
    clear hb1 hb2
    go_wp2_with fail
    refine (HG.out.2.2.2.2.2 _ H1.out.1).mono ?_
    rintro e w2 ⟨rfl, ho2, hk3⟩
    have H2 := kq2 ho2 (H1.out.2.trans hk3)
    clear ho2 hk3
    go_wp2_with fail
    go_ret
    have hRe := HG.out.2.2.1
    rw [if_neg hk2] at hRe
    subst hRe
    exact ⟨rfl, H2.out⟩
theorem close_same (t : Tab) (hh : Nat) : (t.close hh).2.most = t.most ∧ (t.close hh).2.last = t.last := by
 unfold Tab.close
 split <;> exact ⟨rfl, rfl⟩
theorem st_drop {w : World} {ps : Nat} {S : St} {Y : Nat → Prop} (h : StOn w ps S Y) (hi : Inv S) (hh : Nat) (hl : hh < 18446744073709551616) :
 Calls Tryz.prog 75 #[PV ps, .int .u64 hh] w fun e w' => e = .returned (.int .i64 ((S.drop hh).1 : Nat)) ∧ StOn w' ps (S.drop hh).2 Y ∧ Keep Y w w' := by
 have hat := st_at h hi hh hl
 have hle := hi.addr_le hh
 rcases S.at_cases hh with ⟨addr, n, h1, h2, _⟩ | ⟨h1, h2⟩
 · have hR : S.drop hh = ((S.t.close hh).1, ⟨(freeH S.a addr).2, (S.t.close hh).2⟩) := by unfold St.drop; rw [h1]; rfl
   rw [hR]
   rw [h1] at hat hle
   simp only at hat hle
   have HG := kq2 hat h
   clear hat hR h1 h2 h
   go_enter Tryz.func75, Tryz.ntmps75
   go_wp2_with fail
   refine HG.out.1.mono ?_
   rintro e w1 ⟨rfl, rfl⟩
   have hS := HG.out.2
   have hk0 := Keep.refl Y w
   obtain ⟨pa, pm, ph, pt, v, hS⟩ := hS
   obtain ⟨_, _, _, c3, c4⟩ := hS.cells
   have H1 := kq2 hS hk0
   clear hS hk0
   go_wp2_with fail
   refine (heap_free H1.out.1.heap addr (by omega)).mono ?_
   rintro e w2 ⟨rfl, hA2, hk2⟩
   have hS2 := H1.out.1.arena hA2 hk2
   obtain ⟨_, _, _, _, c4'⟩ := hS2.cells
   have H2 := kq2 hS2 (H1.out.2.trans (hk2.mono fun k hk => Or.inl hk))
   clear c3 c4 hA2 hk2 hS2
   go_wp2_with fail
   refine (tab_close H2.out.1.tab hh hl (fun k => k < w2.heap.size ∧ k ≠ pt ∧ v.ownBlock ≠ some k) (fun b hb e => hb.2.2 e.symm)).mono ?_
   rintro e w3 ⟨rfl, ht3, hk3⟩
   have hS3 := H2.out.1.table ht3 (close_same _ _) _ (fun k h1 h2 h3 => ⟨h1, h2, h3⟩) hk3 (fun b hb => hb.2.2)
   have H3 := kq2 hS3 (H2.out.2.trans (hk3.mono fun k hk => ⟨H2.out.1.yl k hk, (H2.out.1.off k (Or.inl hk)).1, (H2.out.1.off k (Or.inl hk)).2⟩))
   clear ht3 hk3 hS3
   go_wp2_with fail
   go_ret
   exact ⟨rfl, ⟨_, _, _, _, _, H3.out.1⟩, H3.out.2⟩
 · have hR : S.drop hh = (7, S) := by unfold St.drop; rw [h1]; rfl
   rw [hR]
   rw [h1] at hat
   have HG := kq2 hat h
   clear hat hR h1 h2 h
   go_enter Tryz.func75, Tryz.ntmps75
   go_wp2_with fail
   refine HG.out.1.mono ?_
   rintro e w1 ⟨rfl, rfl⟩
   have H1 := kq2 HG.out.2 (Keep.refl Y w)
   go_wp2_with fail
   go_ret
   exact ⟨rfl, H1.out⟩
theorem node_drop {w : World} {ps : Nat} {S : St} {Y : Nat → Prop} (h : StOn w ps S Y) (hi : Inv S) (hh : Nat) (hl : hh < 18446744073709551616) :
 Calls Tryz.prog 303 #[PV ps, .int .u64 hh] w fun e w' => e = .returned (.int .i64 ((dropNode S hh).1 : Nat)) ∧ StOn w' ps (dropNode S hh).2 Y ∧ Keep Y w w' := by
 by_cases ha : askedN S hh = 0
 · have has := node_asked h hi hh hl
   have hdr := st_drop h hi hh hl
   have hR : dropNode S hh = S.drop hh := by unfold dropNode; rw [ha]; rfl
   rw [hR]
   rw [ha] at has
   have HG := kq2 has hdr
   clear has hdr hR ha h hi
   go_enter Tryz.func303, Tryz.ntmps303
   go_wp2_with fail
   refine HG.out.1.mono ?_
   rintro e w1 ⟨rfl, rfl⟩
   go_wp2_with fail
   refine HG.out.2.mono ?_
   rintro e w1 ⟨rfl, hb⟩
   have H1 := Lib.hid hb
   clear hb
   go_wp2_with fail
   go_ret
   exact ⟨rfl, H1.out⟩
 · have hR : dropNode S hh = (askedN S hh, S) := by unfold dropNode; split <;> simp_all
   rw [hR]
   refine (node_drop_no h hi hh hl ha).mono ?_
   rintro e w' ⟨rfl, rfl⟩
   exact ⟨rfl, h, Keep.refl _ _⟩
theorem bin_without {w : World} {ps : Nat} {S S' : St} {Y : Nat → Prop} (h : StOn w ps S Y) (hi : Inv S) (kind o : Nat) (hl : o < 18446744073709551616) (hd : dropNode S o = (0, S')) :
 Calls Tryz.prog 297 #[binV ps kind, .int .u64 o] w fun e w' => e = .returned (.tuple #[itV (getNode S o).1.key (getNode S o).1.val, .bool true]) ∧ StOn w' ps S' Y ∧ Keep Y w w' := by
 have B1 := (Below.refl w.heap.size w).alloc (Nat.le_refl _) (.cells #[PV ps, .int .i64 kind] 185)
 have q1 := heap_alloc_new w (.cells #[PV ps, .int .i64 kind] 185)
 have B0 := B1.alloc B1.size (.cells #[.int .u64 0, .int .u64 0] 137)
 have z1 := heap_alloc_new (w.alloc (.cells #[PV ps, .int .i64 kind] 185)) (.cells #[.int .u64 0, .int .u64 0] 137)
 have q1 := (((Below.refl (w.alloc (.cells #[PV ps, .int .i64 kind] 185)).heap.size (w.alloc (.cells #[PV ps, .int .i64 kind] 185))).alloc (Nat.le_refl _) (.cells #[.int .u64 0, .int .u64 0] 137)).block w.heap.size (by simp)).trans q1
 simp only [World.size_alloc] at z1
 have hit := bin_item (h.below B0) hi kind o hl
 have hdr := fun W Z (hW : StOn W ps S Z) => node_drop hW hi o hl
 rw [hd] at hdr
 simp only [itV, binV] at hit ⊢
 generalize (getNode S o).1.key = a0 at *
 generalize (getNode S o).1.val = a1 at *
 have HG := kq6 hit hdr B0 z1 q1 h
 have hyl := h.yl
 clear hit hdr B0 B1 h hi z1 q1 hd
 go_enter Tryz.func297, Tryz.ntmps297
 go_wp2_with fail
 refine HG.out.1.mono ?_
 rintro e w1 ⟨rfl, hb1⟩
 have hal := hb1.alloc hb1.size (.cells #[.int .u64 a0, .int .u64 a1] 137)
 have y1 := heap_alloc_new w1 (.cells #[.int .u64 a0, .int .u64 a1] 137)
 have z1 := (hal.block (w.heap.size + 1) (by simp)).trans HG.out.2.2.2.1
 have q1 := (hal.block w.heap.size (by simp; omega)).trans HG.out.2.2.2.2.1
 have B2 := HG.out.2.2.1.trans (hal.mono HG.out.2.2.1.size)
 have S2 := HG.out.2.2.2.2.2.wide B2
 have sz : w.heap.size + 2 ≤ w1.heap.size := by have := hb1.size; simp at this; omega
 have sw : (w1.alloc (.cells #[.int .u64 a0, .int .u64 a1] 137)).heap.size = w1.heap.size + 1 := by simp
 go_wp2_with fail
 rw [sw] at S2
 generalize w1.alloc (.cells #[.int .u64 a0, .int .u64 a1] 137) = W at *
 obtain ⟨I, hIi, hIo⟩ : ∃ I : World → Prop, (∀ w', I w' → w'.heap[w.heap.size]? = some (.cells #[PV ps, .int .i64 kind] 185) ∧ w'.heap[w1.heap.size]? = some (.cells #[.int .u64 a0, .int .u64 a1] 137)) ∧ (∀ w', w'.heap[w.heap.size]? = some (.cells #[PV ps, .int .i64 kind] 185) → w'.heap[w1.heap.size]? = some (.cells #[.int .u64 a0, .int .u64 a1] 137) → I w') := ⟨fun w' => w'.heap[w.heap.size]? = some (.cells #[PV ps, .int .i64 kind] 185) ∧ w'.heap[w1.heap.size]? = some (.cells #[.int .u64 a0, .int .u64 a1] 137), fun _ h => h, fun _ a b => ⟨a, b⟩⟩
 have hy0 := fun x : Keeps I => (hIi _ x.ok).1
 have hz0 := fun x : Keeps I => (hIi _ x.ok).2
 obtain ⟨my0, my1⟩ := cellsX2 hy0
 obtain ⟨mz0, mz1⟩ := cellsX2 hz0
 have hne : w1.heap.size ≠ w.heap.size + 1 := by omega
 have HW := kq5 B2 z1 q1 y1 S2
 have HI := Lib.hid hIo
 have hI0 : I W.drew := hIo _ q1 y1
 clear B2 z1 q1 y1 hb1 hal hy0 hz0 hIi hIo S2
 refine wp_region_plan I (.take 0 (.take 1 (.take 2 (.take 3 (.go 4 (.take 5 (.go 6 (.go 7 .nil)))))))) (by kernel_rfl) (by kernel_rfl) hI0 ?_
 iterate 4
  refine' plan_take _ (by rfl) _ (by rfl) ?_ ?_
  rotate_left
  · rintro _ ⟨x, rfl⟩
    have hxmy0 := my0 x
    have hxmz0 := mz0 x
    have hxmz1 := mz1 x
    go_simp
    try with_reducible rfl
  try simp only [pu]
 refine pD fun K hK => ?_
 go_simp
 refine (HG.out.2.1 _ _ (HW.out.2.2.2.2.drewN 1)).mono ?_
 rintro e w3 ⟨rfl, s3, k3⟩
 have e3 := fun k (hk : w.heap.size ≤ k ∧ k < w1.heap.size + 1) => k3.block k (Or.inr hk)
 have q3 := (e3 w.heap.size ⟨Nat.le_refl _, by omega⟩).trans HW.out.2.2.1
 have y3 := (e3 w1.heap.size ⟨by omega, by omega⟩).trans HW.out.2.2.2.1
 have z3 := (e3 (w.heap.size + 1) ⟨by omega, by omega⟩).trans HW.out.2.1
 have k3' : Keep Y w w3 := (Keep.of_below HW.out.1 hyl).trans ((Keep.drewN Y W 1).trans (k3.mono fun k hk => Or.inl hk))
 have H3 := kq5 s3 k3' q3 y3 z3
 clear e3 s3 k3 k3' q3 y3 z3
 try go_simp
 refine hK.out _ _ (HI.out _ H3.out.2.2.1 H3.out.2.2.2.1) ?_
 clear hK K
 try simp only [pu]
 refine' plan_take _ (by rfl) _ (by rfl) ?_ ?_
 rotate_left
 · rintro _ ⟨x, rfl⟩
   go_simp
   try with_reducible rfl
 try simp only [pu]
 have z3 := H3.out.2.2.2.2
 obtain ⟨e0, e1⟩ := cells2 z3
 obtain ⟨f0, f1⟩ := frees2 z3
 clear z3
 refine pD fun K hK => ?_
 go_simp
 have q4 : ((w3.setCell ⟨(w.heap.size + 1), 0, none⟩ (.int .u64 a0)).setCell ⟨(w.heap.size + 1), 1, none⟩ (.int .u64 a1)).heap[w.heap.size + 1]? = _ := st2_heap H3.out.2.2.2.2 (.int .u64 a0) (.int .u64 a1)
 have o4 : ∀ k, k ≠ w.heap.size + 1 → ((w3.setCell ⟨(w.heap.size + 1), 0, none⟩ (.int .u64 a0)).setCell ⟨(w.heap.size + 1), 1, none⟩ (.int .u64 a1)).heap[k]? = w3.heap[k]? := fun k hk => st2_other hk _ _
 have s4 : StOn ((w3.setCell ⟨(w.heap.size + 1), 0, none⟩ (.int .u64 a0)).setCell ⟨(w.heap.size + 1), 1, none⟩ (.int .u64 a1)) ps S' Y := (H3.out.1.write (b := w.heap.size + 1) (Or.inr ⟨by omega, by omega⟩) H3.out.2.2.2.2 ⟨by decide, by decide⟩ (by simp) (by simp) fun k _ hk => o4 k hk).mono fun k hk => Or.inl hk
 have k4 : Keep Y w ((w3.setCell ⟨(w.heap.size + 1), 0, none⟩ (.int .u64 a0)).setCell ⟨(w.heap.size + 1), 1, none⟩ (.int .u64 a1)) := H3.out.2.1.trans ⟨rfl, rfl, rfl, by simp, fun k hk => o4 k (by have := hyl k hk; omega)⟩
 have r4 := (o4 w.heap.size (by omega)).trans H3.out.2.2.1
 have y4 := (o4 w1.heap.size hne).trans H3.out.2.2.2.1
 have H4 := kq5 s4 k4 q4 r4 y4
 clear o4 s4 k4 q4 r4 y4 e0 e1 f0 f1
 generalize ((w3.setCell ⟨(w.heap.size + 1), 0, none⟩ (.int .u64 a0)).setCell ⟨(w.heap.size + 1), 1, none⟩ (.int .u64 a1)) = W4 at *
 try go_simp
 refine hK.out _ _ (HI.out _ H4.out.2.2.2.1 H4.out.2.2.2.2) ?_
 clear hK K
 try simp only [pu]
 refine pD fun K hK => ?_
 go_simp
 try go_simp
 refine hK.out _ _ (HI.out _ H4.out.2.2.2.1 H4.out.2.2.2.2) ?_
 clear hK K
 try simp only [pu]
 refine plan_nil ?_
 have q5 := H4.out.2.2.1
 obtain ⟨g0, g1⟩ := cells2 q5
 clear q5
 go_wp2_with fail
 exact bodyPost_ret (v := .tuple #[.agg #[.int .u64 a0, .int .u64 a1], .bool true]) (by simp [results, Tryz.f297, go_sem, g0, g1]) rfl ⟨rfl, H4.out.1, H4.out.2.1⟩
