/- The heap: find: the walk. -/
import Derived.Test.YtepdkbmnkjfcpaaGreatDoorVah
import Derived.Test.YtepdkbmnkjfcpaaGreatDoorVao
set_option maxRecDepth 100000
set_option maxHeartbeats 1600000
namespace Go.Proofs.YtepdkbmnkjfcpaaGreatDoor
open Go.RowKit Go.BigFrame Go.Maps Go.WideMaps Lf
open Go.Shelf
attribute [local go_sem] Oper.semAt_some
theorem below5 (w : World) (a b c d e : Obj) : Below w.heap.size w (((((w.alloc a).alloc b).alloc c).alloc d).alloc e) :=
  (below4 w a b c d).alloc (by simp; omega) _
theorem Hx.drew {W : World} {B : Nat} {x : Head} (h : Hx W B x) : Hx W.drew B x := h
theorem Cx.drew {W : World} {B i : Nat} {v : Value} (h : Cx W B i v) : Cx W.drew B i v := h
theorem find_set {W w : World} {b1 b2 b3 b4 n : Nat} {v1 v2 v4 : Value} {y : Head} (p k : Nat) (x : Head) (h1 : Cx W b1 0 v1) (h2 : Cx W b2 0 v2) (h3 : Hx W b3 y) (h4 : Cx W b4 0 v4) (hb : Below w.heap.size w W) (m1 : ¬ b1 = b2) (m2 : ¬ b1 = b3) (m3 : ¬ b2 = b3) (m4 : ¬ b1 = b4) (m5 : ¬ b2 = b4) (m6 : ¬ b3 = b4) (hw : w.heap.size ≤ b1 ∧ w.heap.size ≤ b2 ∧ w.heap.size ≤ b3 ∧ w.heap.size ≤ b4) :
    KeepsFrom n W ((((((W.setCell ⟨b1, 0, none⟩ (.int .i64 p)).setCell ⟨b2, 0, none⟩ (.int .i64 k)).setCell ⟨b3, 0, none⟩ (.int .i64 x.kind)).setCell ⟨b3, 1, none⟩ (.int .i64 x.n)).setCell ⟨b3, 2, none⟩ (.int .u64 x.w)).setCell ⟨b4, 0, none⟩ (.bool true)).drew ∧
    (Cx ((((((W.setCell ⟨b1, 0, none⟩ (.int .i64 p)).setCell ⟨b2, 0, none⟩ (.int .i64 k)).setCell ⟨b3, 0, none⟩ (.int .i64 x.kind)).setCell ⟨b3, 1, none⟩ (.int .i64 x.n)).setCell ⟨b3, 2, none⟩ (.int .u64 x.w)).setCell ⟨b4, 0, none⟩ (.bool true)).drew b1 0 (.int .i64 p) ∧
     Cx ((((((W.setCell ⟨b1, 0, none⟩ (.int .i64 p)).setCell ⟨b2, 0, none⟩ (.int .i64 k)).setCell ⟨b3, 0, none⟩ (.int .i64 x.kind)).setCell ⟨b3, 1, none⟩ (.int .i64 x.n)).setCell ⟨b3, 2, none⟩ (.int .u64 x.w)).setCell ⟨b4, 0, none⟩ (.bool true)).drew b2 0 (.int .i64 k) ∧
     Hx ((((((W.setCell ⟨b1, 0, none⟩ (.int .i64 p)).setCell ⟨b2, 0, none⟩ (.int .i64 k)).setCell ⟨b3, 0, none⟩ (.int .i64 x.kind)).setCell ⟨b3, 1, none⟩ (.int .i64 x.n)).setCell ⟨b3, 2, none⟩ (.int .u64 x.w)).setCell ⟨b4, 0, none⟩ (.bool true)).drew b3 x ∧
     Cx ((((((W.setCell ⟨b1, 0, none⟩ (.int .i64 p)).setCell ⟨b2, 0, none⟩ (.int .i64 k)).setCell ⟨b3, 0, none⟩ (.int .i64 x.kind)).setCell ⟨b3, 1, none⟩ (.int .i64 x.n)).setCell ⟨b3, 2, none⟩ (.int .u64 x.w)).setCell ⟨b4, 0, none⟩ (.bool true)).drew b4 0 (.bool true)) ∧
    Below w.heap.size w ((((((W.setCell ⟨b1, 0, none⟩ (.int .i64 p)).setCell ⟨b2, 0, none⟩ (.int .i64 k)).setCell ⟨b3, 0, none⟩ (.int .i64 x.kind)).setCell ⟨b3, 1, none⟩ (.int .i64 x.n)).setCell ⟨b3, 2, none⟩ (.int .u64 x.w)).setCell ⟨b4, 0, none⟩ (.bool true)).drew := by
  have hx := ((h3.other (C := b1) (j := 0) (.int .i64 p) (Ne.symm m2)).other (C := b2) (j := 0) (.int .i64 k) (Ne.symm m3)).set x
  have hK := ((((((KeepsOthers.setCell W ⟨b1, 0, none⟩ (.int .i64 p)).trans (KeepsOthers.setCell _ ⟨b2, 0, none⟩ (.int .i64 k))).trans (KeepsOthers.setCell _ ⟨b3, 0, none⟩ (.int .i64 x.kind))).trans (KeepsOthers.setCell _ ⟨b3, 1, none⟩ (.int .i64 x.n))).trans (KeepsOthers.setCell _ ⟨b3, 2, none⟩ (.int .u64 x.w))).trans (KeepsOthers.setCell _ ⟨b4, 0, none⟩ (.bool true))).trans (KeepsOthers.drew _)
  refine ⟨hK.from n, ⟨?_, ?_, ?_, ?_⟩, ?_⟩
  · exact Cx.drew ((((((h1.set (.int .i64 p)).other _ m1).other _ m2).other _ m2).other _ m2).other _ m4)
  · exact Cx.drew ((((((h2.other _ (Ne.symm m1)).set (.int .i64 k)).other _ m3).other _ m3).other _ m3).other _ m5)
  · exact (hx.other _ m6).drew
  · exact Cx.drew ((((((h4.other _ (Ne.symm m4)).other _ (Ne.symm m5)).other _ (Ne.symm m6)).other _ (Ne.symm m6)).other _ (Ne.symm m6)).set (.bool true))
  · exact ((((((hb.setCell (p := ⟨b1, 0, none⟩) hw.1 _).setCell (p := ⟨b2, 0, none⟩) hw.2.1 _).setCell (p := ⟨b3, 0, none⟩) hw.2.2.1 _).setCell (p := ⟨b3, 1, none⟩) hw.2.2.1 _).setCell (p := ⟨b3, 2, none⟩) hw.2.2.1 _).setCell (p := ⟨b4, 0, none⟩) hw.2.2.2 _).drew
theorem hx_class (B : Nat) (y : Head) : ∃ I : World → Prop, (∀ W, Hx W B y → I W) ∧ (∀ W, I W → Hx W B y) := ⟨fun W => Hx W B y, fun _ h => h, fun _ h => h⟩
theorem heap_find {w : World} {ph pa pm : Nat} {s : Slab} {Y : Nat → Prop} (h : HeapOn w ph pa pm s Y) (addr : Nat) (ha : addr ≤ 4611686018427387903) :
    Calls Tryz.prog 167 #[PV ph, .int .i64 addr] w fun e w' => e = .returned (findV (findH s addr)) ∧ Below w.heap.size w w' := by
  refine (callsIn_wide (n := 7)).1 ?_
  have h1 : 1 ≤ 7 := by omega
  have hfS : Fence.wide.fn 133 := trivial
  have hfH : Fence.wide.fn 132 := trivial
  have hfF : Fence.wide.fn 215 := trivial
  have hfP : Fence.wide.fn 214 := trivial
  have hhd : ∀ W, CallsIn Fence.wide 6 Tryz.prog 132 #[PV ph] W _ := fun W => callsIn_wide.2 (heads_any ph W)
  obtain ⟨R, hR⟩ : ∃ R, findV (findH s addr) = R := ⟨_, rfl⟩
  rw [hR]
  have HR := Lib.hid (And.intro hR h)
  clear hR h
  refine callsIn_of_wp_marks Tryz.func167 rfl trivial ?_ rfl
  simp only [Tryz.ntmps167, List.size_toArray, List.length_cons, List.length_nil, Nat.reduceAdd, Nat.reduceSub, Array.replicate_succ, Array.replicate_zero, List.push_toArray, List.append_toArray, List.nil_append, List.cons_append]
  obtain ⟨W5, hW5⟩ : ∃ W5, (((((w.alloc (.cells #[.int .i64 addr] 3)).alloc (.cells #[.int .i64 0] 3)).alloc (.cells #[.int .i64 0] 3)).alloc (.cells #[.int .i64 0, .int .i64 0, .int .u64 0] 204)).alloc (.cells #[.bool false] 4)) = W5 := ⟨_, rfl⟩
  have hb5 : Below w.heap.size w W5 := by rw [← hW5]; exact below5 w _ _ _ _ _
  have c0 : Cx W5 w.heap.size 0 (.int .i64 addr) := by rw [← hW5]; exact ((((Bx.new w (.int .i64 addr) 3).alloc _).alloc _).alloc _).alloc _
  have c1 : Cx W5 (w.heap.size + 1) 0 (.int .i64 0) := by
    have := (((Bx.new (w.alloc (.cells #[.int .i64 addr] 3)) (.int .i64 0) 3).alloc (.cells #[.int .i64 0] 3)).alloc (.cells #[.int .i64 0, .int .i64 0, .int .u64 0] 204)).alloc (.cells #[.bool false] 4)
    rw [World.size_alloc, hW5] at this
    exact this
  have c2 : Cx W5 (w.heap.size + 1 + 1) 0 (.int .i64 0) := by
    have := ((Bx.new ((w.alloc (.cells #[.int .i64 addr] 3)).alloc (.cells #[.int .i64 0] 3)) (.int .i64 0) 3).alloc (.cells #[.int .i64 0, .int .i64 0, .int .u64 0] 204)).alloc (.cells #[.bool false] 4)
    rw [World.size_alloc, World.size_alloc, hW5] at this
    exact this
  have c3 : Hx W5 (w.heap.size + 1 + 1 + 1) ⟨0, 0, 0⟩ := by
    have := (Hx.new (((w.alloc (.cells #[.int .i64 addr] 3)).alloc (.cells #[.int .i64 0] 3)).alloc (.cells #[.int .i64 0] 3)) ⟨0, 0, 0⟩).alloc (.cells #[.bool false] 4)
    rw [World.size_alloc, World.size_alloc, World.size_alloc] at this
    rw [← hW5]
    exact this
  have c4 : Cx W5 (w.heap.size + 1 + 1 + 1 + 1) 0 (.bool false) := by
    have := Bx.new ((((w.alloc (.cells #[.int .i64 addr] 3)).alloc (.cells #[.int .i64 0] 3)).alloc (.cells #[.int .i64 0] 3)).alloc (.cells #[.int .i64 0, .int .i64 0, .int .u64 0] 204)) (.bool false) 4
    rw [World.size_alloc, World.size_alloc, World.size_alloc, World.size_alloc, hW5] at this
    exact this
  have hz5 : W5.heap.size = w.heap.size + 1 + 1 + 1 + 1 + 1 := by rw [← hW5]; simp
  have HC := Lib.hid (And.intro hz5 (And.intro hb5 (And.intro c0 (And.intro c1 (And.intro c2 (And.intro c3 c4))))))
  clear hz5 hb5 c0 c1 c2 c3 c4
  gi_wp2_with fail
  try rw [hW5]
  clear hW5
  have HC := HC.out
  obtain ⟨b5, e5⟩ : ∃ b5, w.heap.size + 1 + 1 + 1 + 1 + 1 = b5 := ⟨_, rfl⟩
  try rw [e5]
  rw [e5] at HC
  obtain ⟨b4, e4⟩ : ∃ b4, w.heap.size + 1 + 1 + 1 + 1 = b4 := ⟨_, rfl⟩
  rw [e4]
  rw [e4] at HC
  obtain ⟨b3, e3⟩ : ∃ b3, w.heap.size + 1 + 1 + 1 = b3 := ⟨_, rfl⟩
  rw [e3]
  rw [e3] at HC
  obtain ⟨b2, e2⟩ : ∃ b2, w.heap.size + 1 + 1 = b2 := ⟨_, rfl⟩
  rw [e2]
  rw [e2] at HC
  obtain ⟨b1, e1⟩ : ∃ b1, w.heap.size + 1 = b1 := ⟨_, rfl⟩
  rw [e1]
  rw [e1] at HC
  obtain ⟨b0, e0⟩ : ∃ b0, w.heap.size = b0 := ⟨_, rfl⟩
  obtain ⟨hz5, hb5, c0, c1, c2, c3, c4⟩ := HC
  rw [e0]
  rw [e0] at c0
  have HB := Lib.hid (show w.heap.size = b0 ∧ b1 = b0 + 1 ∧ b2 = b0 + 2 ∧ b3 = b0 + 3 ∧ b4 = b0 + 4 ∧ b5 = b0 + 5 ∧ W5.heap.size = b5 from ⟨e0, by omega, by omega, by omega, by omega, by omega, hz5⟩)
  have H5 := Lib.hid (And.intro hb5 (And.intro c0 (And.intro c1 (And.intro c2 (And.intro c3 c4)))))
  clear hb5 c0 c1 c2 c3 c4 e0 e1 e2 e3 e4 e5
  refine (hhd _).mono ?_
  rintro e w7 ⟨rfl, rfl⟩
  rw [hz5]
  clear hz5
  gi_wp2_with fail
  obtain ⟨W0, hW0⟩ : ∃ W0, W5.alloc (.cells #[PV ph] 95) = W0 := ⟨_, rfl⟩
  rw [hW0]
  have hsz0 : W0.heap.size = b5 + 1 := by rw [← hW0, World.size_alloc, HB.out.2.2.2.2.2.2]
  have c5 : W0.cell? ⟨b5, 0, none⟩ = some (PV ph) := by
    have := (Bx.new W5 (PV ph) 95).1
    rw [HB.out.2.2.2.2.2.2, hW0] at this
    exact this
  have hbW : Below w.heap.size w W0 := by rw [← hW0]; exact H5.out.1.alloc H5.out.1.size _
  have C0 : Cx W0 b0 0 (.int .i64 addr) := by rw [← hW0]; exact H5.out.2.1.alloc _
  have C1 : Cx W0 b1 0 (.int .i64 0) := by rw [← hW0]; exact H5.out.2.2.1.alloc _
  have C2 : Cx W0 b2 0 (.int .i64 0) := by rw [← hW0]; exact H5.out.2.2.2.1.alloc _
  have C3 : Hx W0 b3 ⟨0, 0, 0⟩ := by rw [← hW0]; exact H5.out.2.2.2.2.1.alloc _
  have C4 : Cx W0 b4 0 (.bool false) := by rw [← hW0]; exact H5.out.2.2.2.2.2.alloc _
  clear hW0 H5
  have hW := HR.out.2.wide hbW
  refine wpIn_rangeFunc_ownH rfl h1 (gf := 180) (lb := #[PV b5]) rfl trivial (enters_of Tryz.func180 (by kernel_rfl) rfl)
    (heads_stops hW (Z := fun k => k = b1 ∨ k = b2 ∨ k = b3 ∨ k = b4) (fun k hk => by
      have h1 := HR.out.2.slab
      obtain ⟨blk, h1⟩ := h1
      have h1 := h1.yl _ HR.out.2.yh
      have h3 := HR.out.2.tab.lt
      have hb := HB.out
      refine ⟨Or.inr (by omega), by omega, ?_⟩
      show k ≠ 1
      omega) b5 c5 (by have hb := HB.out; omega)) KpZ.trans (fun W l o o' h1 h2 h3 h4 => KpZ.put W l o o' h1 h2 h3 h4) (Below.refl _ _) (fun _ => rfl)
    (fun pre W => (findIn addr (valsH pre) = none ∧ Cx W b0 0 (.int .i64 addr) ∧ Cx W b1 0 (.int .i64 0) ∧ Cx W b2 0 (.int .i64 0) ∧ Hx W b3 ⟨0, 0, 0⟩ ∧ Cx W b4 0 (.bool false)) ∧ Below w.heap.size w W)
    (fun cd pre W => (cd = .ret ∧ (∃ p k x, findIn addr (valsH pre) = some (p, k, x) ∧ Cx W b1 0 (.int .i64 p) ∧ Cx W b2 0 (.int .i64 k) ∧ Hx W b3 x) ∧ Cx W b4 0 (.bool true)) ∧ Below w.heap.size w W)
    (OwnFrom.and (Own.from (fun s A B row hs hg hr => ⟨hs.1, hs.2.1.kept hg hr, hs.2.2.1.kept hg hr, hs.2.2.2.1.kept hg hr, hs.2.2.2.2.1.kept hg hr, hs.2.2.2.2.2.kept hg hr⟩) _) (ownFrom_below (Nat.le_refl _) (by have hb := HB.out; omega)))
    (fun cd => OwnFrom.and (Own.from (fun s A B row hs hg hr => ⟨hs.1, (let ⟨p, k, x, k1, k2, k3, k4⟩ := hs.2.1; ⟨p, k, x, k1, k2.kept hg hr, k3.kept hg hr, k4.kept hg hr⟩), hs.2.2.kept hg hr⟩) _) (ownFrom_below (Nat.le_refl _) (by have hb := HB.out; omega)))
    ⟨⟨rfl, C0, C1, C2, C3, C4⟩, hbW⟩
    (fun x a' W => ∃ B, b4 < B ∧ Hx W B x.1.2 ∧ a' = { tmps := #[PV ph, .int .i64 addr, undef, PV b0, PV b1, PV b2, PV b3, PV b4, .int .i64 x.1.1, PV B, undef, undef, undef, PV ph, .func (.func 180) #[] #[PV b5], .int .i64 x.1.1, headV x.1.2, undef, undef, undef, undef, undef, undef, undef, undef, undef, undef, undef, undef, undef, undef, undef, undef, undef, undef, undef, undef, undef, undef, undef, undef, undef, undef, undef, undef, undef, undef, undef, undef, undef, undef, undef, undef, undef, undef, undef, undef, undef, undef, undef, undef, undef, undef, undef, undef, undef], defers := [] })
    (fun x a' _ X W' row hs hg hr => by
      obtain ⟨B, k1, k2, k3⟩ := hs
      exact ⟨B, k1, k2.kept hg (fun r e => (hr r e).2), k3⟩)
    ?assign ?body ?done ?stop
  case assign =>
    rintro l pre ⟨⟨p, kd, xn, xw⟩, hx⟩ W K ⟨⟨i0, i1, i2, i3, i4, i5⟩, hB⟩ hK
    have HH := Lib.hid (And.intro i0 (And.intro i1 (And.intro i2 (And.intro i3 (And.intro i4 (And.intro i5 hB))))))
    have HK := Lib.hid hK
    clear i0 i1 i2 i3 i4 i5 hB hK
    simp only [encH, headV]
    gi_wp2
    have hBl := HH.out.2.2.2.2.2.2
    refine HK.out _ _ ((KeepsOthers.alloc _ _).from _) (KpZ.of_below ((Below.refl _ W).alloc (Nat.le_refl _) _)) ⟨⟨HH.out.1, HH.out.2.1.alloc _, HH.out.2.2.1.alloc _, HH.out.2.2.2.1.alloc _, HH.out.2.2.2.2.1.alloc _, HH.out.2.2.2.2.2.1.alloc _⟩, hBl.alloc hBl.size _⟩ ⟨W.heap.size, ?_, Hx.new W ⟨kd, xn, xw⟩, rfl⟩
    exact HH.out.2.2.2.2.2.1.lt
  case body =>
    rintro l pre ⟨⟨p, kd, xn, xw⟩, hx⟩ a' W hl hlr ⟨⟨i0, i1, i2, i3, i4, i5⟩, hB⟩ ⟨B, hBl, hbx, rfl⟩ hlt
    simp only at hx hbx
    obtain ⟨hx1', hx2', hx3', hx4'⟩ := hx
    have hv : ∀ (hx : _), valsH (pre ++ [(⟨(p, ⟨kd, xn, xw⟩), hx⟩ : HeadX)]) = valsH pre ++ [(p, ⟨kd, xn, xw⟩)] := fun hx => by
      show (pre ++ [(⟨(p, ⟨kd, xn, xw⟩), hx⟩ : HeadX)]).map (·.1) = _
      rw [List.map_append]
      rfl
    have hsn := findIn_snoc addr (p, ⟨kd, xn, xw⟩) (valsH pre) i0
    have hone := findIn_cons addr p ⟨kd, xn, xw⟩ []
    rw [← @hv ⟨hx1', hx2', hx3', hx4'⟩] at hsn
    have hf := hsn.trans hone
    clear hsn hone hv
    have a0 := i1.1
    obtain ⟨q1, g1⟩ := id i2
    obtain ⟨q2, g2⟩ := id i3
    obtain ⟨q3, g3⟩ := i4.c0
    obtain ⟨q4, g4⟩ := i4.c1
    obtain ⟨q5, g5⟩ := i4.c2
    obtain ⟨q6, g6⟩ := id i5
    have x0 := hbx.c0.1
    have x1 := hbx.c1.1
    have x2 := hbx.c2.1
    have HH := Lib.hid (And.intro i0 (And.intro i1 (And.intro i2 (And.intro i3 (And.intro i4 (And.intro i5 (And.intro hB (And.intro hbx (And.intro hl hlr)))))))))
    have HF := Lib.hid hf
    clear i0 i1 i2 i3 i4 i5 hB hf hbx hl hlr
    by_cases h2 : kd = 2 ∧ addr = p * 64 + 2
    · obtain ⟨rfl, rfl⟩ := h2
      gi_wp2_with fail
      have hb := HB.out
      have n1 : ¬ B = b1 := by omega
      have n2 : ¬ B = b2 := by omega
      have n3 : ¬ B = b3 := by omega
      have n4 : ¬ B = b4 := by omega
      have m1 : ¬ b1 = b2 := by omega
      have m2 : ¬ b1 = b3 := by omega
      have m3 : ¬ b2 = b3 := by omega
      have m4 : ¬ b1 = b4 := by omega
      have m5 : ¬ b2 = b4 := by omega
      have m6 : ¬ b3 = b4 := by omega
      clear hb
      obtain ⟨I, hIi, hIo⟩ := hx_class B ⟨2, xn, xw⟩
      have hx0 : ∀ x : Keeps I, x.to.cell? ⟨B, 0, none⟩ = some (.int .i64 2) := fun x => (hIo _ x.ok).c0.1
      have hx1 : ∀ x : Keeps I, x.to.cell? ⟨B, 1, none⟩ = some (.int .i64 xn) := fun x => (hIo _ x.ok).c1.1
      have hx2 : ∀ x : Keeps I, x.to.cell? ⟨B, 2, none⟩ = some (.int .u64 xw) := fun x => (hIo _ x.ok).c2.1
      have hI0 : I W.drew := hIi _ HH.out.2.2.2.2.2.2.2.1
      refine wpIn_region_plan I (.take 0 (.take 1 (.go 2 (.go 3 (.go 4 (.go 5 .nil)))))) (by kernel_rfl) (by kernel_rfl) (by kernel_rfl) hI0 ?_
      refine' plan_take _ (by rfl) _ (by rfl) ?_ ?_
      rotate_left
      · rintro _ ⟨x, rfl⟩
        have hxhx0 := hx0 x
        have hxhx1 := hx1 x
        have hxhx2 := hx2 x
        go_simp
        try with_reducible rfl
      try simp only [Act.put, List.setIfInBounds_toArray, List.set_cons_zero, List.set_cons_succ]
      refine' plan_take _ (by rfl) _ (by rfl) ?_ ?_
      rotate_left
      · rintro _ ⟨x, rfl⟩
        have hxhx0 := hx0 x
        have hxhx1 := hx1 x
        have hxhx2 := hx2 x
        go_simp
        try with_reducible rfl
      try simp only [Act.put, List.setIfInBounds_toArray, List.set_cons_zero, List.set_cons_succ]
      have hbI := HH.out.2.2.2.2.2.2.2.1
      have HI := Lib.hid (And.intro hbI (hbI.other (j := 0) (.int .i64 p) n1))
      have HJ := Lib.hid (And.intro (HI.out.2.other (j := 0) (.int .i64 0) n2) True.intro)
      have HK := Lib.hid (((HJ.out.1.other (j := 0) (.int .i64 2) n3).other (j := 1) (.int .i64 xn) n3).other (j := 2) (.int .u64 xw) n3)
      have HL := Lib.hid (HK.out.other (j := 0) (.bool true) n4)
      clear hbI
      refine plan_do _ (by rfl) (by rfl) (fun K hK => ?_)
      go_simp
      try go_simp
      refine hK.out _ _ (hIi _ (by exact Hx.drew HI.out.2)) ?_
      clear hK K
      try simp only [Act.put, List.setIfInBounds_toArray, List.set_cons_zero, List.set_cons_succ]
      refine plan_do _ (by rfl) (by rfl) (fun K hK => ?_)
      go_simp
      try go_simp
      refine hK.out _ _ (hIi _ (by exact Hx.drew HJ.out.1)) ?_
      clear hK K
      try simp only [Act.put, List.setIfInBounds_toArray, List.set_cons_zero, List.set_cons_succ]
      refine plan_do _ (by rfl) (by rfl) (fun K hK => ?_)
      go_simp
      try go_simp
      refine hK.out _ _ (hIi _ (by exact Hx.drew HK.out)) ?_
      clear hK K
      try simp only [Act.put, List.setIfInBounds_toArray, List.set_cons_zero, List.set_cons_succ]
      refine plan_do _ (by rfl) (by rfl) (fun K hK => ?_)
      go_simp
      try go_simp
      refine hK.out _ _ (hIi _ (by exact Hx.drew HL.out)) ?_
      clear hK K
      try simp only [Act.put, List.setIfInBounds_toArray, List.set_cons_zero, List.set_cons_succ]
      refine plan_end ?_
      gi_wp2_with fail
      obtain ⟨r1, r2, r3⟩ := find_set (n := W0.heap.size) p 0 ⟨2, xn, xw⟩ HH.out.2.2.1 HH.out.2.2.2.1 HH.out.2.2.2.2.1 HH.out.2.2.2.2.2.1 HH.out.2.2.2.2.2.2.1 m1 m2 m3 m4 m5 m6 (by have hb := HB.out; omega)
      refine ⟨r1, ⟨rfl, ⟨p, 0, ⟨2, xn, xw⟩, ?_, r2.1, r2.2.1, r2.2.2.1⟩, r2.2.2.2⟩, r3⟩
      rw [HF.out, if_pos (by simp)]
    · have hd : ((kd : Int) == 2) = false ∨ (((kd : Int) == 2) = true ∧ ((addr : Int) == (p : Int) * 64 + 2) = false) := by
        by_cases e : kd = 2
        · refine Or.inr ⟨by rw [e]; rfl, ?_⟩
          have : ¬ addr = p * 64 + 2 := fun e2 => h2 ⟨e, e2⟩
          simp
          omega
        · exact Or.inl (by simp; omega)
      rw [if_neg h2] at HF
      have HD := Lib.hid hd
      clear hd h2
      by_cases h3 : kd ≠ 1 ∨ addr / 64 ≠ p
      · rw [if_pos h3] at HF
        have he : ((kd : Int) != 1) = true ∨ (((kd : Int) != 1) = false ∧ ((addr : Int) / 64 != (p : Int)) = true) := by
          by_cases e : kd = 1
          · refine Or.inr ⟨by rw [e]; rfl, ?_⟩
            have : ¬ addr / 64 = p := fun e2 => by rcases h3 with h3 | h3 <;> exact h3 (by assumption)
            simp
            omega
          · exact Or.inl (by simp; omega)
        have HE := Lib.hid he
        clear he h3
        have hfin : findIn addr (valsH (pre ++ [(⟨(p, ⟨kd, xn, xw⟩), ⟨hx1', hx2', hx3', hx4'⟩⟩ : HeadX)])) = none := HF.out
        have HN := Lib.hid hfin
        clear hfin
        rcases HD.out with hd | ⟨hd, hd'⟩ <;> rcases HE.out with he | ⟨he, he'⟩
        all_goals
          gi_wp2_with fail
          exact ⟨KeepsFrom.refl _ _, KpZ.refl _ _ _, ⟨HN.out, HH.out.2.1, HH.out.2.2.1, HH.out.2.2.2.1, HH.out.2.2.2.2.1, HH.out.2.2.2.2.2.1⟩, HH.out.2.2.2.2.2.2.1⟩
      · rw [if_neg h3] at HF
        have h3' : kd = 1 ∧ addr / 64 = p := ⟨by omega, by omega⟩
        obtain ⟨rfl, hp⟩ := h3'
        have hd : (((1 : Nat) : Int) == 2) = false := rfl
        have he : (((1 : Nat) : Int) != 1) = false := rfl
        have he' : ((addr : Int) / 64 != (p : Int)) = false := by simp; omega
        clear h3
        obtain ⟨er, hsr⟩ := slotsRes_nat xn
        have hsl : CallsIn Fence.wide 4 Tryz.prog 133 #[.int .i64 xn] W _ := callsIn_wide.2 (class_slots xn W)
        rw [hsr] at hsl
        have hcs := classSlots_le xn
        obtain ⟨m, hm⟩ : ∃ m, classSlots xn = m := ⟨_, rfl⟩
        rw [hm] at hsl hcs
        have HS := Lib.hid (And.intro hsl hm)
        clear hsl hsr hm
        gi_wp2_with fail
        refine (CallsIn.inRound l HS.out.1).mono ?_
        rintro e w2 ⟨rfl, hb2⟩
        have HW := Lib.hid hb2
        clear hb2
        gi_wp2_with fail
        clear a0 x0 x1 x2 q1 q2 q3 q4 q5 q6 g1 g2 g3 g4 g5 g6
        gi_loopw [12, 45] (fun _ i wr => ∃ k : Nat, k ≤ m ∧ i = .int .i64 k ∧ Hid (Below W.heap.size W wr ∧ ∀ j, j < k → (decide (placeH p xn j = addr) && bitOf xw j) = false)) (fun _ i _ => m - (intOf i).toNat)
        case atStart => exact ⟨0, by omega, rfl, Lib.hid ⟨HW.out, fun j hj => by omega⟩⟩
        case round =>
          obtain ⟨k, hk, rfl, hr⟩ := hrel
          by_cases hlt : k < m
          · have hlt' : (k : Int) < m := by omega
            have hbB := HH.out.2.2.2.2.2.2.2.1
            have hk2 := hbB.below hr.out.1 hbB.lt
            have hk0 := HH.out.2.1.below hr.out.1 HH.out.2.1.lt
            have hx0 : ∀ x : Keeps (Below wr.heap.size wr), x.to.cell? ⟨b0, 0, none⟩ = some (.int .i64 addr) := fun x => (hk0.below x.ok hk0.lt).1
            have hx1 : ∀ x : Keeps (Below wr.heap.size wr), x.to.cell? ⟨B, 1, none⟩ = some (.int .i64 xn) := fun x => (hk2.below x.ok hk2.lt).c1.1
            have hx2 : ∀ x : Keeps (Below wr.heap.size wr), x.to.cell? ⟨B, 2, none⟩ = some (.int .u64 xw) := fun x => (hk2.below x.ok hk2.lt).c2.1
            have hpl : ∀ x : Keeps (Below wr.heap.size wr), CallsIn Fence.wide 4 Tryz.prog 214 #[.int .i64 p, .int .i64 xn, .int .i64 k] x.to _ := fun x => CallsIn.keeps_below (callsIn_wide.2 (heap_place p xn k x.to (by omega) (by omega) (by omega)))
            have hha : ∀ x : Keeps (Below wr.heap.size wr), CallsIn Fence.wide 4 Tryz.prog 215 #[.int .u64 xw, .int .i64 k] x.to _ := fun x => CallsIn.keeps_same (callsIn_wide.2 (bits_has xw k x.to (by omega) (by omega)))
            obtain ⟨P, hP⟩ : ∃ P, placeH p xn k = P := ⟨_, rfl⟩
            obtain ⟨bt, hbt⟩ : ∃ bt, bitOf xw k = bt := ⟨_, rfl⟩
            rw [hP] at hpl
            rw [hbt] at hha
            have HP := Lib.hid (And.intro hP (And.intro hbt (And.intro hr.out.1 (And.intro hr.out.2 hbB))))
            have hsz := hr.out.1.size
            clear hP hbt hr hbB hk2 hk0
            by_cases hpa : P = addr
            · obtain rfl := hpa
              cases bt with
              | true =>
                gi_wp2_with fail
                refine wpIn_region_keeps (Below wr.heap.size wr) (by kernel_rfl) (by kernel_rfl) (by kernel_rfl) ⟨rfl, rfl, rfl, Nat.le_refl _, fun _ _ => rfl⟩ fun ⟨x0⟩ => ?_
                repeat (first | gi_big_quiet_skip | (gi_big_quiet_want; gi_big_quiet_op; first | go_big_quiet_on | (apply Exists.intro; refine ⟨fun x => ?_, ?_⟩; (· first | exact CallsIn.inRound l (hpl x) | exact CallsIn.inRound l (hha x)); go_big_quiet_on)))
                refine wpQuietIn_nil ?_
                rintro _ ⟨x, rfl⟩
                have hx := x.ok
                have i2 := (HH.out.2.2.1.below HP.out.2.2.1 HH.out.2.2.1.lt)
                have i3 := (HH.out.2.2.2.1.below HP.out.2.2.1 HH.out.2.2.2.1.lt)
                have i4 := (HH.out.2.2.2.2.1.below HP.out.2.2.1 HH.out.2.2.2.2.1.lt)
                have i5 := (HH.out.2.2.2.2.2.1.below HP.out.2.2.1 HH.out.2.2.2.2.2.1.lt)
                have ib := HP.out.2.2.2.2.below HP.out.2.2.1 HP.out.2.2.2.2.lt
                have bl := HH.out.2.2.2.2.2.2.1.trans ((HP.out.2.2.1.trans (hx.mono hsz)).mono HH.out.2.2.2.2.2.2.1.size)
                replace i2 := i2.below hx i2.lt
                replace i3 := i3.below hx i3.lt
                replace i4 := i4.below hx i4.lt
                replace i5 := i5.below hx i5.lt
                replace ib := ib.below hx ib.lt
                have hkf : KeepsFrom W0.heap.size W x.to := KeepsFrom.of_grownBy (grown_of_below (HP.out.2.2.1.trans (hx.mono hsz))) (fun j e => by cases e)
                generalize x.to = V at *
                clear hx0 hx1 hx2 hpl hha x x0 hx
                obtain ⟨q1, g1⟩ := id i2
                obtain ⟨q2, g2⟩ := id i3
                obtain ⟨q3, g3⟩ := i4.c0
                obtain ⟨q4, g4⟩ := i4.c1
                obtain ⟨q5, g5⟩ := i4.c2
                obtain ⟨q6, g6⟩ := id i5
                have HV := Lib.hid (And.intro i2 (And.intro i3 (And.intro i4 (And.intro i5 (And.intro bl (And.intro hkf ib))))))
                clear i2 i3 i4 i5 bl hkf ib
                gi_wp2_with fail
                have hb := HB.out
                have n1 : ¬ B = b1 := by omega
                have n2 : ¬ B = b2 := by omega
                have n3 : ¬ B = b3 := by omega
                have n4 : ¬ B = b4 := by omega
                have m1 : ¬ b1 = b2 := by omega
                have m2 : ¬ b1 = b3 := by omega
                have m3 : ¬ b2 = b3 := by omega
                have m4 : ¬ b1 = b4 := by omega
                have m5 : ¬ b2 = b4 := by omega
                have m6 : ¬ b3 = b4 := by omega
                clear hb
                obtain ⟨I, hIi, hIo⟩ := hx_class B ⟨1, xn, xw⟩
                have hx0 : ∀ x : Keeps I, x.to.cell? ⟨B, 0, none⟩ = some (.int .i64 1) := fun x => (hIo _ x.ok).c0.1
                have hx1 : ∀ x : Keeps I, x.to.cell? ⟨B, 1, none⟩ = some (.int .i64 xn) := fun x => (hIo _ x.ok).c1.1
                have hx2 : ∀ x : Keeps I, x.to.cell? ⟨B, 2, none⟩ = some (.int .u64 xw) := fun x => (hIo _ x.ok).c2.1
                have hI0 : I V.drew := hIi _ HV.out.2.2.2.2.2.2
                refine wpIn_region_plan I (.take 0 (.take 1 (.take 2 (.go 3 (.go 4 (.go 5 (.go 6 .nil))))))) (by kernel_rfl) (by kernel_rfl) (by kernel_rfl) hI0 ?_
                refine' plan_take _ (by rfl) _ (by rfl) ?_ ?_
                rotate_left
                · rintro _ ⟨x, rfl⟩
                  have hxhx0 := hx0 x
                  have hxhx1 := hx1 x
                  have hxhx2 := hx2 x
                  go_simp
                  try with_reducible rfl
                try simp only [Act.put, List.setIfInBounds_toArray, List.set_cons_zero, List.set_cons_succ]
                refine' plan_take _ (by rfl) _ (by rfl) ?_ ?_
                rotate_left
                · rintro _ ⟨x, rfl⟩
                  have hxhx0 := hx0 x
                  have hxhx1 := hx1 x
                  have hxhx2 := hx2 x
                  go_simp
                  try with_reducible rfl
                try simp only [Act.put, List.setIfInBounds_toArray, List.set_cons_zero, List.set_cons_succ]
                refine' plan_take _ (by rfl) _ (by rfl) ?_ ?_
                rotate_left
                · rintro _ ⟨x, rfl⟩
                  have hxhx0 := hx0 x
                  have hxhx1 := hx1 x
                  have hxhx2 := hx2 x
                  go_simp
                  try with_reducible rfl
                try simp only [Act.put, List.setIfInBounds_toArray, List.set_cons_zero, List.set_cons_succ]
                have hbI := HV.out.2.2.2.2.2.2
                have HI := Lib.hid (And.intro hbI (hbI.other (j := 0) (.int .i64 p) n1))
                have HJ := Lib.hid (And.intro (HI.out.2.other (j := 0) (.int .i64 k) n2) True.intro)
                have HK := Lib.hid (((HJ.out.1.other (j := 0) (.int .i64 1) n3).other (j := 1) (.int .i64 xn) n3).other (j := 2) (.int .u64 xw) n3)
                have HL := Lib.hid (HK.out.other (j := 0) (.bool true) n4)
                clear hbI
                refine plan_do _ (by rfl) (by rfl) (fun K hK => ?_)
                go_simp
                try go_simp
                refine hK.out _ _ (hIi _ (by exact Hx.drew HI.out.2)) ?_
                clear hK K
                try simp only [Act.put, List.setIfInBounds_toArray, List.set_cons_zero, List.set_cons_succ]
                refine plan_do _ (by rfl) (by rfl) (fun K hK => ?_)
                go_simp
                try go_simp
                refine hK.out _ _ (hIi _ (by exact Hx.drew HJ.out.1)) ?_
                clear hK K
                try simp only [Act.put, List.setIfInBounds_toArray, List.set_cons_zero, List.set_cons_succ]
                refine plan_do _ (by rfl) (by rfl) (fun K hK => ?_)
                go_simp
                try go_simp
                refine hK.out _ _ (hIi _ (by exact Hx.drew HK.out)) ?_
                clear hK K
                try simp only [Act.put, List.setIfInBounds_toArray, List.set_cons_zero, List.set_cons_succ]
                refine plan_do _ (by rfl) (by rfl) (fun K hK => ?_)
                go_simp
                try go_simp
                refine hK.out _ _ (hIi _ (by exact Hx.drew HL.out)) ?_
                clear hK K
                try simp only [Act.put, List.setIfInBounds_toArray, List.set_cons_zero, List.set_cons_succ]
                refine plan_end ?_
                gi_wp2_with fail
                obtain ⟨r1, r2, r3⟩ := find_set (n := W0.heap.size) p k ⟨1, xn, xw⟩ HV.out.1 HV.out.2.1 HV.out.2.2.1 HV.out.2.2.2.1 HV.out.2.2.2.2.1 m1 m2 m3 m4 m5 m6 (by have hb := HB.out; omega)
                have hfi : findIn P (valsH (pre ++ [(⟨(p, ⟨1, xn, xw⟩), ⟨hx1', hx2', hx3', hx4'⟩⟩ : HeadX)])) = some (p, k, ⟨1, xn, xw⟩) := by
                  rw [HF.out]
                  have hs : slotAt P p ⟨1, xn, xw⟩ = some k := by
                    unfold slotAt
                    exact find_range_some (by rw [HS.out.2]; exact hlt) (by simp [HP.out.1, HP.out.2.1]) HP.out.2.2.2.1
                  rw [hs]
                exact ⟨HV.out.2.2.2.2.2.1.trans r1, ⟨rfl, ⟨p, k, ⟨1, xn, xw⟩, hfi, r2.1, r2.2.1, r2.2.2.1⟩, r2.2.2.2⟩, r3⟩
              | false =>
                gi_wp2_with fail
                refine wpIn_region_keeps (Below wr.heap.size wr) (by kernel_rfl) (by kernel_rfl) (by kernel_rfl) ⟨rfl, rfl, rfl, Nat.le_refl _, fun _ _ => rfl⟩ fun ⟨x0⟩ => ?_
                repeat (first | gi_big_quiet_skip | (gi_big_quiet_want; gi_big_quiet_op; first | go_big_quiet_on | (apply Exists.intro; refine ⟨fun x => ?_, ?_⟩; (· first | exact CallsIn.inRound l (hpl x) | exact CallsIn.inRound l (hha x)); go_big_quiet_on)))
                refine wpQuietIn_nil ?_
                rintro _ ⟨x, rfl⟩
                have hx := HP.out.2.2.1.trans (x.ok.mono hsz)
                generalize x.to = V at *
                gi_wp2_with fail
                exact ⟨⟨k + 1, by omega, by simp, Lib.hid ⟨hx, fun j hj => by
                  by_cases hjk : j < k
                  · exact HP.out.2.2.2.1 j hjk
                  · obtain rfl : j = k := by omega
                    rw [HP.out.2.1]; simp⟩⟩, by simp [intOf]; omega⟩
            · have hne : ((P : Int) == addr) = false := by simp; omega
              gi_wp2_with fail
              refine wpIn_region_keeps (Below wr.heap.size wr) (by kernel_rfl) (by kernel_rfl) (by kernel_rfl) ⟨rfl, rfl, rfl, Nat.le_refl _, fun _ _ => rfl⟩ fun ⟨x0⟩ => ?_
              repeat (first | gi_big_quiet_skip | (gi_big_quiet_want; gi_big_quiet_op; first | go_big_quiet_on | (apply Exists.intro; refine ⟨fun x => ?_, ?_⟩; (· first | exact CallsIn.inRound l (hpl x) | exact CallsIn.inRound l (hha x)); go_big_quiet_on)))
              refine wpQuietIn_nil ?_
              rintro _ ⟨x, rfl⟩
              have hx := HP.out.2.2.1.trans (x.ok.mono hsz)
              generalize x.to = V at *
              gi_wp2_with fail
              exact ⟨⟨k + 1, by omega, by simp, Lib.hid ⟨hx, fun j hj => by
                by_cases hjk : j < k
                · exact HP.out.2.2.2.1 j hjk
                · obtain rfl : j = k := by omega
                  rw [HP.out.1]; simp [hpa]⟩⟩, by simp [intOf]; omega⟩
          · obtain rfl : k = m := by omega
            have hfi : findIn addr (valsH (pre ++ [(⟨(p, ⟨1, xn, xw⟩), ⟨hx1', hx2', hx3', hx4'⟩⟩ : HeadX)])) = none := by
              rw [HF.out]
              have hs : slotAt addr p ⟨1, xn, xw⟩ = none := by
                unfold slotAt
                exact find_range_none (fun j hj => hr.out.2 j (by rw [HS.out.2] at hj; exact hj))
              rw [hs]
              rfl
            have HN := Lib.hid (And.intro hfi hr.out.1)
            clear hfi hr
            gi_wp2_with fail
            exact ⟨KeepsFrom.of_grownBy (grown_of_below HN.out.2) (fun j e => by cases e), KpZ.of_below HN.out.2, ⟨HN.out.1, HH.out.2.1.below HN.out.2 HH.out.2.1.lt, HH.out.2.2.1.below HN.out.2 HH.out.2.2.1.lt, HH.out.2.2.2.1.below HN.out.2 HH.out.2.2.2.1.lt, HH.out.2.2.2.2.1.below HN.out.2 HH.out.2.2.2.2.1.lt, HH.out.2.2.2.2.2.1.below HN.out.2 HH.out.2.2.2.2.2.1.lt⟩, HH.out.2.2.2.2.2.2.1.trans (HN.out.2.mono HH.out.2.2.2.2.2.2.1.size)⟩
  case done =>
    rintro D ys W hD hS ⟨⟨i0, i1, i2, i3, i4, i5⟩, hB⟩ hK
    obtain ⟨k1, f1⟩ := id i2
    obtain ⟨k2, f2⟩ := id i3
    obtain ⟨k3, f3⟩ := i4.c0
    obtain ⟨k4, f4⟩ := i4.c1
    obtain ⟨k5, f5⟩ := i4.c2
    obtain ⟨k6, f6⟩ := id i5
    have hb := HB.out
    have m1 : ¬ b1 = b2 := by omega
    have m2 : ¬ b1 = b3 := by omega
    have m3 : ¬ b2 = b3 := by omega
    have m4 : ¬ b1 = b4 := by omega
    have m5 : ¬ b2 = b4 := by omega
    have m6 : ¬ b3 = b4 := by omega
    have hw : w.heap.size ≤ b1 ∧ w.heap.size ≤ b2 ∧ w.heap.size ≤ b3 ∧ w.heap.size ≤ b4 := by omega
    clear hb
    have HH := Lib.hid (And.intro i2 (And.intro i3 (And.intro i4 (And.intro i5 hB))))
    rw [hS] at i0
    have hRe : R = .tuple #[.int .i64 0, .int .i64 0, .agg #[.int .i64 0, .int .i64 0, .int .u64 0], .bool false] := by
      rw [← HR.out.1]
      unfold findH
      rw [i0]
      rfl
    clear i0 i1 i2 i3 i4 i5 hB hS
    gi_wp2
    have hK' := ((((((KeepsOthers.setCell W ⟨b1, 0, none⟩ (.int .i64 0)).trans (KeepsOthers.setCell _ ⟨b2, 0, none⟩ (.int .i64 0))).trans (KeepsOthers.setCell _ ⟨b3, 0, none⟩ (.int .i64 0))).trans (KeepsOthers.setCell _ ⟨b3, 1, none⟩ (.int .i64 0))).trans (KeepsOthers.setCell _ ⟨b3, 2, none⟩ (.int .u64 0))).trans (KeepsOthers.setCell _ ⟨b4, 0, none⟩ (.bool false))).same D _ hK rfl
    refine ⟨by simp, .inl ⟨_, _, rfl, run_takeDeferred hK', ?_⟩⟩
    have r1 := (((((((HH.out.1.set (.int .i64 0)).other (.int .i64 0) m1).other (j := 0) (.int .i64 0) m2).other (j := 1) (.int .i64 0) m2).other (j := 2) (.int .u64 0) m2).other (j := 0) (.bool false) m4).put (o' := .deferred none) hK' rfl).1
    have r2 := (((((((HH.out.2.1.other (j := 0) (.int .i64 0) (Ne.symm m1)).set (.int .i64 0)).other (j := 0) (.int .i64 0) m3).other (j := 1) (.int .i64 0) m3).other (j := 2) (.int .u64 0) m3).other (j := 0) (.bool false) m5).put (o' := .deferred none) hK' rfl).1
    have hx3 := ((((HH.out.2.2.1.other (C := b1) (j := 0) (.int .i64 0) (Ne.symm m2)).other (C := b2) (j := 0) (.int .i64 0) (Ne.symm m3)).set ⟨0, 0, 0⟩).other (C := b4) (j := 0) (.bool false) m6)
    have hx4 := hx3.put (o' := .deferred none) hK' rfl
    have r3 := hx4.c0.1
    have r4 := hx4.c1.1
    have r5 := hx4.c2.1
    have r6 := (((((((HH.out.2.2.2.1.other (j := 0) (.int .i64 0) (Ne.symm m4)).other (j := 0) (.int .i64 0) (Ne.symm m5)).other (j := 0) (.int .i64 0) (Ne.symm m6)).other (j := 1) (.int .i64 0) (Ne.symm m6)).other (j := 2) (.int .u64 0) (Ne.symm m6)).set (.bool false)).put (o' := .deferred none) hK' rfl).1
    clear hx3 hx4
    dsimp only at r3 r4 r5
    rw [show ((0 : Nat) : Int) = 0 from rfl] at r3 r4 r5
    subst hRe
    refine ⟨.tuple #[.int .i64 0, .int .i64 0, .agg #[.int .i64 0, .int .i64 0, .int .u64 0], .bool false], ?_, rfl, ((((((HH.out.2.2.2.2.setCell (p := ⟨b1, 0, none⟩) hw.1 _).setCell (p := ⟨b2, 0, none⟩) hw.2.1 _).setCell (p := ⟨b3, 0, none⟩) hw.2.2.1 _).setCell (p := ⟨b3, 1, none⟩) hw.2.2.1 _).setCell (p := ⟨b3, 2, none⟩) hw.2.2.1 _).setCell (p := ⟨b4, 0, none⟩) hw.2.2.2 _).trans (belowK_b (w := w) (Nat.le_refl _) _ D _ _ (by have hb := HB.out; omega) hK' rfl rfl)⟩
    simp [results, Tryz.f167, go_sem, r1, r2, r3, r4, r5, r6]
  case stop =>
    rintro D cd pre W hD hpre ⟨⟨rfl, ⟨p, k, x, hpk, hb1, hb2, hb3⟩, hb4⟩, hB⟩ hK
    obtain ⟨t, ht⟩ := hpre
    have hRe : R = .tuple #[.int .i64 p, .int .i64 k, .agg #[.int .i64 x.kind, .int .i64 x.n, .int .u64 x.w], .bool true] := by
      rw [← HR.out.1]
      unfold findH
      rw [← ht, findIn_some addr (p, k, x) _ t hpk]
      rfl
    have HH := Lib.hid hB
    have r1 := (hb1.put (o' := .deferred none) hK rfl).1
    have r2 := (hb2.put (o' := .deferred none) hK rfl).1
    have hx4 := hb3.put (o' := .deferred none) hK rfl
    have r3 := hx4.c0.1
    have r4 := hx4.c1.1
    have r5 := hx4.c2.1
    have r6 := (hb4.put (o' := .deferred none) hK rfl).1
    clear hpk ht hb1 hb2 hb3 hb4 hB hx4
    subst hRe
    gi_wp2
    refine ⟨by simp, .inl ⟨_, _, rfl, run_takeDeferred hK, ?_⟩⟩
    refine ⟨.tuple #[.int .i64 p, .int .i64 k, .agg #[.int .i64 x.kind, .int .i64 x.n, .int .u64 x.w], .bool true], ?_, rfl, HH.out.trans (belowK_b (w := w) (Nat.le_refl _) W D _ _ (by have hb := HB.out; omega) hK rfl rfl)⟩
    simp [results, Tryz.f167, go_sem, r1, r2, r3, r4, r5, r6]
end Go.Proofs.YtepdkbmnkjfcpaaGreatDoor
