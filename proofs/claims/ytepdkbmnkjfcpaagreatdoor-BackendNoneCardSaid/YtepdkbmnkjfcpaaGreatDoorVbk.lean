/- B-trees: an item in the place of one of the same key: the walk. -/
import Derived.Test.YtepdkbmnkjfcpaaGreatDoorVbj
set_option maxRecDepth 100000
set_option maxHeartbeats 6400000
namespace Go.Proofs.YtepdkbmnkjfcpaaGreatDoor
open Go.RowKit Go.BigFrame Go.Maps Go.WideMaps Lf Tr
theorem own_set {w : World} {D b c k : Nat} {l : List Nat} (h : OwnH w D (.slice (some ⟨b, 0, none⟩) l.length c) l) (x : Nat) (hk : k < l.length) :
    OwnH (w.setCell ⟨b, k, none⟩ (.int .u64 x)) D (.slice (some ⟨b, 0, none⟩) l.length c) (l.set k x) := by
  rcases h.2 with ⟨h0, _⟩ | ⟨g', cap', cur, hv, hg, hb, h1, h2, h3, h4⟩
  · cases h0
  · injection hv with hv1 hv2 hv3
    injection hv1 with hv1
    injection hv1 with hv1
    subst hv1 hv3
    refine ⟨by simp [hV], Or.inr ⟨b, c, cur.setIfInBounds k (.int .u64 x), by rw [List.length_set], hg, heap_setCell hb, by rw [List.length_set]; exact h1, h2, by simpa using h3, ?_⟩⟩
    have hl : (hV l).length = l.length := by simp [hV]
    have hsp : cur.toList = hV l ++ cur.toList.drop (l.length * 1) := by rw [← h4, List.take_append_drop]
    rw [List.length_set]
    simp only [Array.toList_setIfInBounds]
    rw [hsp, List.set_append_left _ _ (by omega), List.take_left' (by simp [hV])]
    simp [hV, List.map_set]
theorem row_store {w : World} {ps : Nat} {S : St} {Y : Nat → Prop} {D b c k : Nat} {l : List Nat} (h : StOn w ps S Y) (ho : OwnH w D (.slice (some ⟨b, 0, none⟩) l.length c) l) (hD : tabB < D) (hy : Y b) (x : Nat) : StOn (w.setCell ⟨b, k, none⟩ (.int .u64 x)) ps S Y := by
  obtain ⟨h1, h2, cs, fr, h3⟩ := OwnH.block ho rfl
  obtain ⟨pa, pm, ph, pt, v, h⟩ := h
  refine ⟨pa, pm, ph, pt, v, h.of_keep (by rw [size_setCell]; exact Nat.le_refl _) fun k hk hc => heap_setCell_ne ?_⟩
  rintro rfl
  rcases hc with hc | rfl | rfl | rfl
  · exact hc hy
  · have := h.hd
    rw [h3] at this
    injection this with this
    injection this with _ this
    exact absurd this (by decide)
  · have := h.heap.hp
    rw [h3] at this
    injection this with this
    injection this with _ this
    exact absurd this (by decide)
  · exact absurd (Nat.lt_of_lt_of_le hD h1) (Nat.lt_irrefl _)
theorem own_below2 {w w' : World} {D : Nat} {v : Value} {l : List Nat} (h : OwnH w D v l) (hb : Below w.heap.size w w') : OwnH w' D v l := OwnH.at h fun g hg => hb.block g (OwnH.ge h g hg).2
theorem own_cell {w : World} {D b c k v : Nat} {l : List Nat} (h : OwnH w D (.slice (some ⟨b, 0, none⟩) l.length c) l) (hk : l[k]? = some v) : w.cell? ⟨b, k, none⟩ = some (.int .u64 v) ∧ w.frozen? ⟨b, k, none⟩ = false := by
  obtain ⟨hkl, hkv⟩ := List.getElem?_eq_some_iff.1 hk
  have h1 := World.ownsRow.cells h (g := b) rfl k (.int .u64 v) (by simp [hV, hkv, hkl])
  rw [Addr.add_lit] at h1
  obtain ⟨_, _, cs, fr, h3⟩ := OwnH.block h rfl
  rcases h.2 with ⟨h0, _⟩ | ⟨g', cap', cur, hv, hg, hb, _⟩
  · cases h0
  · injection hv with hv1 _ _
    injection hv1 with hv1
    injection hv1 with hv1
    subst hv1
    exact ⟨by simpa using h1, frozen_of_block hb⟩
theorem bt_swap {w : World} {ps : Nat} {S : St} {o : Nat → Nat} {Y : Nat → Prop} (h : StOn w ps S Y) {t d : Nat} {x : Bt (d + 1)} (hx : Bt.Walk S o t x) (hd : d < 40) {e e0 : It} {g : Nat} {n0 : BN} {k0 : Nat} (hnd : Bt.nodeB e.k x = some (g, n0, k0)) (hrep : Bt.RepAt S o t x e e0 g n0 k0) :
    Calls Tryz.prog 191 #[trB ps t, .int .u64 (Bt.hd x : Nat), SV e.k, itV e.kh e.vh] w fun en w' => en = .returned (itV e0.kh e0.vh) ∧ StOn w' ps (putWords S g 0 (bnWords t (Bt.setN n0 k0 e))) Y ∧ Keep Y w w' := by
  have B0 := (((Below.refl w.heap.size w).alloc (Nat.le_refl _) (.cells #[PV ps, .int .i64 t] 221)).alloc (by simp) (.cells #[.int .u64 e.kh, .int .u64 e.vh] 105)).alloc (by simp; omega) (.cells #[.int .u64 0, .int .u64 0] 105)
  have z1 : (w.alloc (.cells #[PV ps, .int .i64 t] 221)).heap.size = w.heap.size + 1 := by simp
  have z2 : ((w.alloc (.cells #[PV ps, .int .i64 t] 221)).alloc (.cells #[.int .u64 e.kh, .int .u64 e.vh] 105)).heap.size = w.heap.size + 2 := by simp
  have q1 := heap_alloc_new w (.cells #[PV ps, .int .i64 t] 221)
  have q2 := heap_alloc_new (w.alloc (.cells #[PV ps, .int .i64 t] 221)) (.cells #[.int .u64 e.kh, .int .u64 e.vh] 105)
  have q3 := heap_alloc_new ((w.alloc (.cells #[PV ps, .int .i64 t] 221)).alloc (.cells #[.int .u64 e.kh, .int .u64 e.vh] 105)) (.cells #[.int .u64 0, .int .u64 0] 105)
  rw [z1] at q2
  rw [z2] at q3
  have c2 := (Below.refl (w.heap.size + 2) ((w.alloc (.cells #[PV ps, .int .i64 t] 221)).alloc (.cells #[.int .u64 e.kh, .int .u64 e.vh] 105))).alloc (by rw [z2]; exact Nat.le_refl _) (.cells #[.int .u64 0, .int .u64 0] 105)
  have c1 := (Below.refl (w.heap.size + 1) (w.alloc (.cells #[PV ps, .int .i64 t] 221))).alloc (by rw [z1]; exact Nat.le_refl _) (.cells #[.int .u64 e.kh, .int .u64 e.vh] 105)
  have q1 := (c2.block w.heap.size (by omega)).trans ((c1.block w.heap.size (by omega)).trans q1)
  have q2 := (c2.block (w.heap.size + 1) (by omega)).trans q2
  have hz : w.heap.size + 3 ≤ (((w.alloc (.cells #[PV ps, .int .i64 t] 221)).alloc (.cells #[.int .u64 e.kh, .int .u64 e.vh] 105)).alloc (.cells #[.int .u64 0, .int .u64 0] 105)).heap.size := by simp
  have htab := tab_lt h
  generalize hW : ((w.alloc (.cells #[PV ps, .int .i64 t] 221)).alloc (.cells #[.int .u64 e.kh, .int .u64 e.vh] 105)).alloc (.cells #[.int .u64 0, .int .u64 0] 105) = W0 at *
  clear c1 c2 z1 z2
  have hi := hx.fit.inv
  have hget := fun W (hw : Below W0.heap.size W0 W) {n : BN} {hh : Nat} (hb : BnAt S t hh n) => bt_get (h.below (B0.trans (hw.mono B0.size))) hi hb
  have hplace := fun W (hw : Below W0.heap.size W0 W) {es : List It} {vk vv vc : Value} {sz : Nat} hk hl hs he => bt_place (h.below (B0.trans (hw.mono B0.size))) hi t (es := es) (vk := vk) (vv := vv) (vc := vc) (sz := sz) hk hl hs he e.k
  have hst := fun W (hw : Below W0.heap.size W0 W) => h.wide (B0.trans (hw.mono B0.size))
  have hgl := look_ok hx.fit hrep.len
  have hlen := look_len hx.fit.tab hrep.len
  rw [bnWords_length] at hlen
  have hpu := fun (W : World) (Z : Nat → Prop) (hW : StOn W ps S Z) {vk vv vc : Value} (k1 : HRow W vk (Bt.setN n0 k0 e).keys) (k2 : HRow W vv (Bt.setN n0 k0 e).vals) (k3 : HRow W vc (Bt.setN n0 k0 e).kids) => bnode_put hW hi hrep.bnok k1 k2 k3 g hgl.2.1 hlen hrep.words
  have HG := Lib.hid (And.intro (And.intro B0 (And.intro q1 (And.intro q2 (And.intro q3 (And.intro hz (And.intro htab h.yl)))))) (And.intro @hget (And.intro @hplace (And.intro hst @hpu))))
  have HX := Lib.hid (And.intro hx (And.intro hnd hrep))
  obtain ⟨h0, hh0⟩ : ∃ h0, Bt.hd x = h0 := ⟨_, rfl⟩
  have HR := Lib.hid hh0
  rw [hh0]
  obtain ⟨ek, hek⟩ : ∃ ek, e.k = ek := ⟨_, rfl⟩
  have HEK := Lib.hid hek
  rw [hek]
  unfold trB itV
  clear hget hplace h hx hi B0 q1 q2 q3 hz hh0 hek hnd hrep hpu hst hgl hlen htab
  go_enter Tryz.func191, Tryz.ntmps191
  go_wp2_with fail
  clear hW
  go_loopw [1, 9, 10, 11, 12, 13, 14] (fun s1 _ _ _ _ _ s14 wr => ∃ (d' i hh : Nat), s1 = .int .u64 hh ∧ s14 = .int .i64 i ∧ i + d' < 40 ∧ Hid (Below W0.heap.size W0 wr ∧ ∃ y : Bt (d' + 1), Bt.Walk S o t y ∧ Bt.hd y = hh ∧ Bt.nodeB e.k y = some (g, n0, k0))) (fun _ _ _ _ _ _ s14 _ => 40 - (intOf s14).toNat)
  case atStart => exact ⟨d, 0, h0, rfl, rfl, by omega, Below.refl _ _, x, HX.out.1, HR.out, HX.out.2.1⟩
  case round =>
    obtain ⟨d', i, hh, rfl, rfl, hid, I⟩ := hrel
    obtain ⟨hB, y, hy, hhy, hny⟩ := I.out
    have hlt : (i : Int) < 40 := by omega
    have t3 := (hB.block w.heap.size (by have := HG.out.1.2.2.2.2.1; omega)).trans HG.out.1.2.1
    have x0 : (wr).cell? ⟨w.heap.size, 0, none⟩ = some (PV ps) := by rw [cell_of_block t3]; rfl
    have x1 : (wr).cell? ⟨w.heap.size, 1, none⟩ = some (.int .i64 t) := by rw [cell_of_block t3]; rfl
    have hget := HG.out.2.1 wr hB hy.read
    unfold trB bnV at hget
    rw [hhy] at hget
    have HY := Lib.hid (And.intro hB (And.intro hy (And.intro hhy hny)))
    clear hB hy hhy hny t3
    obtain ⟨n, hn⟩ : ∃ n, Bt.bn y = n := ⟨_, rfl⟩
    rw [hn] at hget
    have HGT := Lib.hid hget
    clear hget
    go_wp2_with fail
    refine HGT.out.mono ?_
    rintro en w1 ⟨vk, vv, vc, rfl, rows, hb⟩
    obtain ⟨Ak, ck, rfl⟩ := rows.k.slice2
    obtain ⟨Av, cv, rfl⟩ := rows.v.slice2
    obtain ⟨Ac, cc, rfl⟩ := rows.c.slice2
    have hkl : n.keys.length = (Bn.es y).length := by rw [← hn]; unfold Bt.bn; rw [List.length_map]
    have hvl : n.vals.length = (Bn.es y).length := by rw [← hn]; unfold Bt.bn; rw [List.length_map]
    have hcl : n.kids.length = (Bn.ks y).length := by rw [← hn]; unfold Bt.bn; rw [List.length_map]
    have hy := HY.out.2.1
    obtain ⟨es1, es2, es3⟩ := hy.es
    generalize hlk : (Bn.es y).length = lk at *
    generalize hlc : (Bn.ks y).length = lc at *
    rw [hkl] at rows
    rw [hvl] at rows
    rw [hcl] at rows
    rw [hkl, hvl, hcl]
    generalize hsz : n.size = sz at *
    have A1 := (Below.refl w1.heap.size w1).alloc (Nat.le_refl _) (.cells #[.slice Ak lk ck, .slice Av lk cv, .slice Ac lc cc, .int .u64 sz] 267)
    have p1 := heap_alloc_new w1 (.cells #[.slice Ak lk ck, .slice Av lk cv, .slice Ac lc cc, .int .u64 sz] 267)
    have B1 := HY.out.1.trans ((hb.trans (A1.mono hb.size)).mono HY.out.1.size)
    have rows1 := rows.below A1
    have hlt1 : w1.heap.size < (w1.alloc (.cells #[.slice Ak lk ck, .slice Av lk cv, .slice Ac lc cc, .int .u64 sz] 267)).heap.size := by simp
    have hbw := hb.size
    have hlim : (∀ g, (Value.slice Ak lk ck).ownBlock = some g → g < w1.heap.size) ∧ (∀ g, (Value.slice Av lk cv).ownBlock = some g → g < w1.heap.size) ∧ ∀ g, (Value.slice Ac lc cc).ownBlock = some g → g < w1.heap.size := ⟨fun g q => (rows.k.ge g q).2, fun g q => (rows.v.ge g q).2, fun g q => (rows.c.ge g q).2⟩
    obtain ⟨W1, hW1⟩ : ∃ W1, w1.alloc (.cells #[.slice Ak lk ck, .slice Av lk cv, .slice Ac lc cc, .int .u64 sz] 267) = W1 := ⟨_, rfl⟩
    rw [hW1] at A1 p1 B1 rows1 hlt1
    have t3 := (B1.block w.heap.size (by have := HG.out.1.2.2.2.2.1; omega)).trans HG.out.1.2.1
    have x0 : (W1).cell? ⟨w.heap.size, 0, none⟩ = some (PV ps) := by rw [cell_of_block t3]; rfl
    have x1 : (W1).cell? ⟨w.heap.size, 1, none⟩ = some (.int .i64 t) := by rw [cell_of_block t3]; rfl
    have y0 : (W1).cell? ⟨w1.heap.size, 0, none⟩ = some (.slice Ak lk ck) := by rw [cell_of_block p1]; rfl
    have y1 : (W1).cell? ⟨w1.heap.size, 1, none⟩ = some (.slice Av lk cv) := by rw [cell_of_block p1]; rfl
    have y2 : (W1).cell? ⟨w1.heap.size, 2, none⟩ = some (.slice Ac lc cc) := by rw [cell_of_block p1]; rfl
    have y3 : (W1).cell? ⟨w1.heap.size, 3, none⟩ = some (.int .u64 sz) := by rw [cell_of_block p1]; rfl
    have hks : n.keys = (Bn.es y).map (·.kh) := by rw [← hn]; rfl
    have hrk := rows1.k.hrow
    rw [hks] at hrk
    have hpl := HG.out.2.2.1 W1 B1 (vv := .slice Av lk cv) (vc := .slice Ac lc cc) (sz := sz) hrk (by omega) es1 es2
    unfold trB bnV at hpl
    rw [HEK.out] at hpl
    have HPL := Lib.hid hpl
    have hwz := HY.out.1.size
    have H1 := Lib.hid (And.intro B1 (And.intro p1 (And.intro rows1 (And.intro t3 (And.intro hlt1 (And.intro hbw (And.intro hwz hlim)))))))
    clear hpl rows rows1 hb A1 p1 B1 t3 hrk hks HGT hlt1 hbw hwz es1 es2 hlim
    obtain ⟨k, hk⟩ : ∃ k, belowB ek (Bn.es y) = k := ⟨_, rfl⟩
    obtain ⟨he, hhe⟩ : ∃ he, hereB ek (Bn.es y) = he := ⟨_, rfl⟩
    rw [hk, hhe] at HPL
    have hkle : k ≤ lk := by rw [← hk, ← hlk]; exact below_le _
    have HK := Lib.hid (And.intro hk (And.intro hhe (And.intro hlk (And.intro hlc (And.intro hn (And.intro hsz (And.intro hkl (And.intro hvl hcl))))))))
    clear hk hhe hlk hlc hn hsz hkl hvl hcl hy
    go_wp2_with fail
    refine HPL.out.mono ?_
    rintro en w2 ⟨rfl, hb2⟩
    have p2 := (hb2.block w1.heap.size H1.out.2.2.2.2.1).trans H1.out.2.1
    have t2 := (hb2.block w.heap.size (by have := H1.out.1.size; have := HG.out.1.2.2.2.2.1; omega)).trans H1.out.2.2.2.1
    clear x0 x1 y0 y1 y2 y3
    have x0 : (w2).cell? ⟨w.heap.size, 0, none⟩ = some (PV ps) := by rw [cell_of_block t2]; rfl
    have x1 : (w2).cell? ⟨w.heap.size, 1, none⟩ = some (.int .i64 t) := by rw [cell_of_block t2]; rfl
    have y0 : (w2).cell? ⟨w1.heap.size, 0, none⟩ = some (.slice Ak lk ck) := by rw [cell_of_block p2]; rfl
    have y1 : (w2).cell? ⟨w1.heap.size, 1, none⟩ = some (.slice Av lk cv) := by rw [cell_of_block p2]; rfl
    have y2 : (w2).cell? ⟨w1.heap.size, 2, none⟩ = some (.slice Ac lc cc) := by rw [cell_of_block p2]; rfl
    have y3 : (w2).cell? ⟨w1.heap.size, 3, none⟩ = some (.int .u64 sz) := by rw [cell_of_block p2]; rfl
    have HB2 := Lib.hid hb2
    clear hb2 p2 t2 HPL hW1
    cases he with
    | true =>
      have hnh := Bt.nodeB_here (key := e.k) (x := y) (by rw [HEK.out]; exact HK.out.2.1)
      rw [HY.out.2.2.2, HY.out.2.2.1, HEK.out, HK.out.1, HK.out.2.2.2.2.1] at hnh
      injection hnh with hnh
      injection hnh with hg1 hnh
      injection hnh with hn1 hk1
      subst hg1 hn1 hk1
      have hrep := HX.out.2.2
      have hkq := hrep.key
      have hvq := hrep.val
      obtain ⟨hkn, _⟩ := List.getElem?_eq_some_iff.1 hkq
      rw [HK.out.2.2.2.2.2.2.1] at hkn
      have hkn2 : (k0 : Int) < lk := by omega
      have R2 := H1.out.2.2.1.below HB2.out
      have hkl := HK.out.2.2.2.2.2.2.1
      have hvl := HK.out.2.2.2.2.2.2.2.1
      obtain ⟨gk, ck2, hv1, _⟩ := OwnH.some R2.k (by rw [hkl]; omega)
      obtain ⟨gv, cv2, hv2, _⟩ := OwnH.some R2.v (by rw [hvl]; omega)
      injection hv1 with hv1 hv1b hv1c
      injection hv2 with hv2 hv2b hv2c
      clear hv1b hv1c hv2b hv2c
      subst hv1 hv2
      have Rk := R2.k
      have Rv := R2.v
      rw [← hkl] at Rk
      rw [← hvl] at Rv
      obtain ⟨dk, fk⟩ := own_cell Rk hkq
      obtain ⟨dv, fv⟩ := own_cell Rv hvq
      have hkv : gk ≠ gv := fun q => R2.kv gk rfl (by rw [q]; rfl)
      have hkD := R2.k.ge gk rfl
      have hvD := R2.v.ge gv rfl
      have p2 := (HB2.out.block w1.heap.size H1.out.2.2.2.2.1).trans H1.out.2.1
      have t2 := (HB2.out.block w.heap.size (by have := H1.out.1.size; have := HG.out.1.2.2.2.2.1; omega)).trans H1.out.2.2.2.1
      have B2 := H1.out.1.trans (HB2.out.mono H1.out.1.size)
      have a2 := (B2.block (w.heap.size + 1) (by have := HG.out.1.2.2.2.2.1; omega)).trans HG.out.1.2.2.1
      have r2 := (B2.block (w.heap.size + 2) (by have := HG.out.1.2.2.2.2.1; omega)).trans HG.out.1.2.2.2.1
      have hs2 := B2.size
      have hs1 := H1.out.2.2.2.2.2.2.1
      have hlk1 := H1.out.2.2.2.2.2.2.2.1 gk rfl
      have hlv1 := H1.out.2.2.2.2.2.2.2.2.1 gv rfl
      have hlc1 := H1.out.2.2.2.2.2.2.2.2.2
      have hsb := H1.out.2.2.2.2.2.1
      have hs0 := HG.out.1.2.2.2.2.1
      have HRW := Lib.hid (And.intro R2 (And.intro hkl (And.intro hvl (And.intro p2 (And.intro t2 (And.intro a2 (And.intro r2 (And.intro B2 (And.intro Rk (And.intro Rv hrep))))))))))
      have h1p : w1.heap.size < w2.heap.size := (Array.getElem?_eq_some_iff.1 p2).1
      obtain ⟨I, hIi, hIo⟩ := but_class w2 w2.heap.size
      have hz1 := fun x : Keeps I => (hIi _ x.ok w1.heap.size h1p (by omega)).trans p2
      have m0 : ∀ x : Keeps I, x.to.cell? ⟨w1.heap.size, 0, none⟩ = some (.slice (some ⟨gk, 0, none⟩) lk ck) := fun x => by rw [cell_of_block (hz1 x)]; rfl
      have m1 : ∀ x : Keeps I, x.to.cell? ⟨w1.heap.size, 1, none⟩ = some (.slice (some ⟨gv, 0, none⟩) lk cv) := fun x => by rw [cell_of_block (hz1 x)]; rfl
      have m2 : ∀ x : Keeps I, x.to.cell? ⟨w1.heap.size, 2, none⟩ = some (.slice Ac lc cc) := fun x => by rw [cell_of_block (hz1 x)]; rfl
      have m3 : ∀ x : Keeps I, x.to.cell? ⟨w1.heap.size, 3, none⟩ = some (.int .u64 sz) := fun x => by rw [cell_of_block (hz1 x)]; rfl
      have o1 : ∀ x : Keeps I, x.to.cell? ⟨gk, k0, none⟩ = some (.int .u64 (e0.kh : Nat)) := fun x => (cell_of_same (hIi _ x.ok gk hkD.2 (by omega))).trans dk
      have o2 : ∀ x : Keeps I, x.to.cell? ⟨gv, k0, none⟩ = some (.int .u64 (e0.vh : Nat)) := fun x => (cell_of_same (hIi _ x.ok gv hvD.2 (by omega))).trans dv
      have hI0 : I w2.drew := hIo _ fun k hk _ => rfl
      have HI := Lib.hid hIo
      clear hIi hIo hz1 R2 Rk Rv hkl hvl p2 t2 a2 r2 B2 hkq hvq hrep dk fk dv fv x0 x1 y0 y1 y2 y3
      go_wp2_with fail
      refine wp_region_plan I (.take 0 (.take 1 (.take 2 (.take 3 (.take 4 (.take 5 (.take 6 (.take 7 (.take 8 (.take 9 (.take 10 (.go 11 (.go 12 .nil))))))))))))) (by kernel_rfl) (by kernel_rfl) hI0 ?_
      refine' plan_take _ (by rfl) _ (by rfl) ?_ ?_
      rotate_left
      · rintro _ ⟨x, rfl⟩
        have hxm0 := m0 x
        have hxm1 := m1 x
        have hxm2 := m2 x
        have hxm3 := m3 x
        have hxo1 := o1 x
        have hxo2 := o2 x
        go_simp
        try with_reducible rfl
      try simp only [Act.put, List.setIfInBounds_toArray, List.set_cons_zero, List.set_cons_succ]
      refine' plan_take _ (by rfl) _ (by rfl) ?_ ?_
      rotate_left
      · rintro _ ⟨x, rfl⟩
        have hxm0 := m0 x
        have hxm1 := m1 x
        have hxm2 := m2 x
        have hxm3 := m3 x
        have hxo1 := o1 x
        have hxo2 := o2 x
        go_simp
        try with_reducible rfl
      try simp only [Act.put, List.setIfInBounds_toArray, List.set_cons_zero, List.set_cons_succ]
      refine' plan_take _ (by rfl) _ (by rfl) ?_ ?_
      rotate_left
      · rintro _ ⟨x, rfl⟩
        have hxm0 := m0 x
        have hxm1 := m1 x
        have hxm2 := m2 x
        have hxm3 := m3 x
        have hxo1 := o1 x
        have hxo2 := o2 x
        go_simp
        try with_reducible rfl
      try simp only [Act.put, List.setIfInBounds_toArray, List.set_cons_zero, List.set_cons_succ]
      refine' plan_take _ (by rfl) _ (by rfl) ?_ ?_
      rotate_left
      · rintro _ ⟨x, rfl⟩
        have hxm0 := m0 x
        have hxm1 := m1 x
        have hxm2 := m2 x
        have hxm3 := m3 x
        have hxo1 := o1 x
        have hxo2 := o2 x
        go_simp
        try with_reducible rfl
      try simp only [Act.put, List.setIfInBounds_toArray, List.set_cons_zero, List.set_cons_succ]
      refine' plan_take _ (by rfl) _ (by rfl) ?_ ?_
      rotate_left
      · rintro _ ⟨x, rfl⟩
        have hxm0 := m0 x
        have hxm1 := m1 x
        have hxm2 := m2 x
        have hxm3 := m3 x
        have hxo1 := o1 x
        have hxo2 := o2 x
        go_simp
        try with_reducible rfl
      try simp only [Act.put, List.setIfInBounds_toArray, List.set_cons_zero, List.set_cons_succ]
      refine' plan_take _ (by rfl) _ (by rfl) ?_ ?_
      rotate_left
      · rintro _ ⟨x, rfl⟩
        have hxm0 := m0 x
        have hxm1 := m1 x
        have hxm2 := m2 x
        have hxm3 := m3 x
        have hxo1 := o1 x
        have hxo2 := o2 x
        go_simp
        try with_reducible rfl
      try simp only [Act.put, List.setIfInBounds_toArray, List.set_cons_zero, List.set_cons_succ]
      refine' plan_take _ (by rfl) _ (by rfl) ?_ ?_
      rotate_left
      · rintro _ ⟨x, rfl⟩
        have hxm0 := m0 x
        have hxm1 := m1 x
        have hxm2 := m2 x
        have hxm3 := m3 x
        have hxo1 := o1 x
        have hxo2 := o2 x
        go_simp
        try with_reducible rfl
      try simp only [Act.put, List.setIfInBounds_toArray, List.set_cons_zero, List.set_cons_succ]
      refine' plan_take _ (by rfl) _ (by rfl) ?_ ?_
      rotate_left
      · rintro _ ⟨x, rfl⟩
        have hxm0 := m0 x
        have hxm1 := m1 x
        have hxm2 := m2 x
        have hxm3 := m3 x
        have hxo1 := o1 x
        have hxo2 := o2 x
        go_simp
        try with_reducible rfl
      try simp only [Act.put, List.setIfInBounds_toArray, List.set_cons_zero, List.set_cons_succ]
      refine' plan_take _ (by rfl) _ (by rfl) ?_ ?_
      rotate_left
      · rintro _ ⟨x, rfl⟩
        have hxm0 := m0 x
        have hxm1 := m1 x
        have hxm2 := m2 x
        have hxm3 := m3 x
        have hxo1 := o1 x
        have hxo2 := o2 x
        go_simp
        try with_reducible rfl
      try simp only [Act.put, List.setIfInBounds_toArray, List.set_cons_zero, List.set_cons_succ]
      refine' plan_take _ (by rfl) _ (by rfl) ?_ ?_
      rotate_left
      · rintro _ ⟨x, rfl⟩
        have hxm0 := m0 x
        have hxm1 := m1 x
        have hxm2 := m2 x
        have hxm3 := m3 x
        have hxo1 := o1 x
        have hxo2 := o2 x
        go_simp
        try with_reducible rfl
      try simp only [Act.put, List.setIfInBounds_toArray, List.set_cons_zero, List.set_cons_succ]
      refine' plan_take _ (by rfl) _ (by rfl) ?_ ?_
      rotate_left
      · rintro _ ⟨x, rfl⟩
        have hxm0 := m0 x
        have hxm1 := m1 x
        have hxm2 := m2 x
        have hxm3 := m3 x
        have hxo1 := o1 x
        have hxo2 := o2 x
        go_simp
        try with_reducible rfl
      try simp only [Act.put, List.setIfInBounds_toArray, List.set_cons_zero, List.set_cons_succ]
      refine plan_do _ (by rfl) (by rfl) (fun K hK => ?_)
      go_simp
      try go_simp
      refine hK.out _ _ (HI.out _ fun k hk _ => ((Below.refl w2.heap.size w2).alloc (Nat.le_refl _) _).drew.block k hk) ?_
      clear hK K
      try simp only [Act.put, List.setIfInBounds_toArray, List.set_cons_zero, List.set_cons_succ]
      refine plan_do _ (by rfl) (by rfl) (fun K hK => ?_)
      go_simp
      have B8 : Below w2.heap.size w2 (w2.alloc (.cells #[.int .u64 (e0.kh : Nat), .int .u64 (e0.vh : Nat)] 105)).drew := ((Below.refl w2.heap.size w2).alloc (Nat.le_refl _) _).drew
      have q8 : (w2.alloc (.cells #[.int .u64 (e0.kh : Nat), .int .u64 (e0.vh : Nat)] 105)).drew.heap[w2.heap.size]? = _ := heap_alloc_new w2 (.cells #[.int .u64 (e0.kh : Nat), .int .u64 (e0.vh : Nat)] 105)
      have HQ8 := Lib.hid (Array.getElem?_eq_some_iff.1 q8).1
      generalize (w2.alloc (.cells #[.int .u64 (e0.kh : Nat), .int .u64 (e0.vh : Nat)] 105)).drew = w8 at *
      try go_simp
      refine hK.out _ _ (HI.out _ fun k hk _ => B8.block k hk) ?_
      clear hK K
      try simp only [Act.put, List.setIfInBounds_toArray, List.set_cons_zero, List.set_cons_succ]
      refine plan_nil ?_
      clear m0 m1 m2 m3 o1 o2
      have hRW := HRW.out
      have B18 := hRW.2.2.2.2.2.2.2.1.trans (B8.mono hRW.2.2.2.2.2.2.2.1.size)
      have R8 := hRW.1.below B8
      have Rk8 := own_below2 hRW.2.2.2.2.2.2.2.2.1 B8
      have Rv8 := own_below2 hRW.2.2.2.2.2.2.2.2.2.1 B8
      have p8 := (B8.block w1.heap.size h1p).trans hRW.2.2.2.1
      have t8 := (B8.block w.heap.size (by omega)).trans hRW.2.2.2.2.1
      have a8 := (B8.block (w.heap.size + 1) (by omega)).trans hRW.2.2.2.2.2.1
      have r8 := (B8.block (w.heap.size + 2) (by omega)).trans hRW.2.2.2.2.2.2.1
      have st8 := HG.out.2.2.2.1 w8 B18
      have htb := HG.out.1.2.2.2.2.2.1
      obtain ⟨ck8, fk8⟩ := own_cell Rk8 hRW.2.2.2.2.2.2.2.2.2.2.key
      obtain ⟨cv8, fv8⟩ := own_cell Rv8 hRW.2.2.2.2.2.2.2.2.2.2.val
      have hsz8 := B8.size
      have yk : Y gk ∨ (w.heap.size ≤ gk ∧ gk < w8.heap.size) := Or.inr ⟨by omega, by omega⟩
      have yv : Y gv ∨ (w.heap.size ≤ gv ∧ gv < w8.heap.size) := Or.inr ⟨by omega, by omega⟩
      have st9 := row_store (k := k0) (st8.below (Below.refl _ _).drew) (own_below2 Rk8 (Below.refl _ _).drew) (by omega) yk e.kh
      have Rk9 := own_set (own_below2 Rk8 (Below.refl _ _).drew) e.kh (k := k0) (List.getElem?_eq_some_iff.1 hRW.2.2.2.2.2.2.2.2.2.2.key).1
      have o9 : ∀ b, b ≠ gk → (w8.drew.setCell ⟨gk, k0, none⟩ (.int .u64 (e.kh : Nat))).heap[b]? = w8.heap[b]? := fun b hb => heap_setCell_ne hb
      have Rv9 : OwnH (w8.drew.setCell ⟨gk, k0, none⟩ (.int .u64 (e.kh : Nat))) wr.heap.size (.slice (some ⟨gv, 0, none⟩) n0.vals.length cv) n0.vals := OwnH.at Rv8 fun g hg => by
        have : g = gv := by injection hg with hg; exact hg.symm
        rw [this]
        exact o9 gv (Ne.symm hkv)
      have Rc9 : OwnH (w8.drew.setCell ⟨gk, k0, none⟩ (.int .u64 (e.kh : Nat))) wr.heap.size (.slice Ac lc cc) n0.kids := OwnH.at R8.c fun g hg => o9 g fun q => R8.kc gk rfl (by rw [← q]; exact hg)
      have p9 := (o9 w1.heap.size (by omega)).trans p8
      have t9 := (o9 w.heap.size (by omega)).trans t8
      have a9 := (o9 (w.heap.size + 1) (by omega)).trans a8
      have r9 := (o9 (w.heap.size + 2) (by omega)).trans r8
      have q9 := (o9 w2.heap.size (by omega)).trans q8
      have k9 : Keep Y w8 (w8.drew.setCell ⟨gk, k0, none⟩ (.int .u64 (e.kh : Nat))) := ⟨rfl, rfl, rfl, by simp, fun k hk => o9 k (by have := HG.out.1.2.2.2.2.2.2 k hk; omega)⟩
      have z9 : (w8.drew.setCell ⟨gk, k0, none⟩ (.int .u64 (e.kh : Nat))).heap.size = w8.heap.size := by simp
      obtain ⟨cv9, fv9⟩ := own_cell Rv9 hRW.2.2.2.2.2.2.2.2.2.2.val
      obtain ⟨w9, hw9⟩ : ∃ w9, w8.drew.setCell ⟨gk, k0, none⟩ (.int .u64 (e.kh : Nat)) = w9 := ⟨_, rfl⟩
      rw [hw9] at st9 Rk9 Rv9 Rc9 p9 t9 a9 r9 q9 k9 z9 cv9 fv9
      clear o9
      have st10 := row_store (k := k0) st9 Rv9 (by omega) yv e.vh
      have Rv10 := own_set Rv9 e.vh (k := k0) (List.getElem?_eq_some_iff.1 hRW.2.2.2.2.2.2.2.2.2.2.val).1
      have o10 : ∀ b, b ≠ gv → (w9.setCell ⟨gv, k0, none⟩ (.int .u64 (e.vh : Nat))).heap[b]? = w9.heap[b]? := fun b hb => heap_setCell_ne hb
      have Rk10 : OwnH (w9.setCell ⟨gv, k0, none⟩ (.int .u64 (e.vh : Nat))) wr.heap.size (.slice (some ⟨gk, 0, none⟩) n0.keys.length ck) (n0.keys.set k0 e.kh) := OwnH.at Rk9 fun g hg => by
        have : g = gk := by injection hg with hg; exact hg.symm
        rw [this]
        exact o10 gk hkv
      have Rc10 : OwnH (w9.setCell ⟨gv, k0, none⟩ (.int .u64 (e.vh : Nat))) wr.heap.size (.slice Ac lc cc) n0.kids := OwnH.at Rc9 fun g hg => o10 g fun q => R8.vc gv rfl (by rw [← q]; exact hg)
      have p10 := (o10 w1.heap.size (by omega)).trans p9
      have t10 := (o10 w.heap.size (by omega)).trans t9
      have r10 := (o10 (w.heap.size + 2) (by omega)).trans r9
      have q10 := (o10 w2.heap.size (by omega)).trans q9
      have a10 := (o10 (w.heap.size + 1) (by omega)).trans a9
      have k10 : Keep Y w8 (w9.setCell ⟨gv, k0, none⟩ (.int .u64 (e.vh : Nat))) := k9.trans ⟨rfl, rfl, rfl, by simp, fun k hk => o10 k (by have := HG.out.1.2.2.2.2.2.2 k hk; omega)⟩
      have z10 : (w9.setCell ⟨gv, k0, none⟩ (.int .u64 (e.vh : Nat))).heap.size = w8.heap.size := by simp [z9]
      obtain ⟨w10, hw10⟩ : ∃ w10, w9.setCell ⟨gv, k0, none⟩ (.int .u64 (e.vh : Nat)) = w10 := ⟨_, rfl⟩
      rw [hw10] at st10 Rv10 Rk10 Rc10 p10 t10 r10 q10 a10 k10 z10
      clear o10
      obtain ⟨I, hIi, hIo⟩ := two_class (fun w' => w'.heap[w1.heap.size]? = some (.cells #[.slice (some ⟨gk, 0, none⟩) lk ck, .slice (some ⟨gv, 0, none⟩) lk cv, .slice Ac lc cc, .int .u64 sz] 267)) (fun w' => w'.heap[w.heap.size + 1]? = some (.cells #[.int .u64 (e.kh : Nat), .int .u64 (e.vh : Nat)] 105))
      have hy0 := fun x : Keeps I => (hIi _ x.ok).1
      have hz0 := fun x : Keeps I => (hIi _ x.ok).2
      have m0 : ∀ x : Keeps I, x.to.cell? ⟨w1.heap.size, 0, none⟩ = some (.slice (some ⟨gk, 0, none⟩) lk ck) := fun x => by rw [cell_of_block (hy0 x)]; rfl
      have m1 : ∀ x : Keeps I, x.to.cell? ⟨w1.heap.size, 1, none⟩ = some (.slice (some ⟨gv, 0, none⟩) lk cv) := fun x => by rw [cell_of_block (hy0 x)]; rfl
      have m2 : ∀ x : Keeps I, x.to.cell? ⟨w1.heap.size, 2, none⟩ = some (.slice Ac lc cc) := fun x => by rw [cell_of_block (hy0 x)]; rfl
      have m3 : ∀ x : Keeps I, x.to.cell? ⟨w1.heap.size, 3, none⟩ = some (.int .u64 sz) := fun x => by rw [cell_of_block (hy0 x)]; rfl
      have z0 : ∀ x : Keeps I, x.to.cell? ⟨w.heap.size + 1, 0, none⟩ = some (.int .u64 (e.kh : Nat)) := fun x => by rw [cell_of_block (hz0 x)]; rfl
      have z1 : ∀ x : Keeps I, x.to.cell? ⟨w.heap.size + 1, 1, none⟩ = some (.int .u64 (e.vh : Nat)) := fun x => by rw [cell_of_block (hz0 x)]; rfl
      have hI8 : I w8.drew := hIo _ p8 a8
      have hI9 : I w9 := hIo _ p9 a9
      have hI10 : I w10 := hIo _ p10 a10
      have dk8 : w8.drew.cell? ⟨gk, k0, none⟩ = some (.int .u64 (e0.kh : Nat)) := ck8
      have ek8 : w8.drew.frozen? ⟨gk, k0, none⟩ = false := fk8
      have HT := Lib.hid (And.intro st10 (And.intro (And.intro Rk10 (And.intro Rv10 Rc10)) (And.intro p10 (And.intro t10 (And.intro r10 (And.intro q10 (And.intro k10 z10)))))))
      clear hIi hIo hy0 hz0 st8 st9 st10 Rk9 Rv9 Rc9 Rk10 Rv10 Rc10 p8 t8 a8 r8 q8 p9 t9 a9 r9 q9 k9 z9 p10 t10 r10 q10 a10 k10 z10 R8 Rk8 Rv8 ck8 fk8 cv8 fv8 yk yv
      go_wp2_with fail
      refine wp_region_plan I (.take 0 (.take 1 (.take 2 (.take 3 (.take 4 (.take 5 (.take 6 (.take 7 (.take 8 (.take 9 (.take 10 (.go 11 (.take 12 (.go 13 .nil)))))))))))))) (by kernel_rfl) (by kernel_rfl) hI8 ?_
      refine' plan_take _ (by rfl) _ (by rfl) ?_ ?_
      rotate_left
      · rintro _ ⟨x, rfl⟩
        have hxm0 := m0 x
        have hxm1 := m1 x
        have hxm2 := m2 x
        have hxm3 := m3 x
        have hxz0 := z0 x
        have hxz1 := z1 x
        go_simp
        try with_reducible rfl
      try simp only [Act.put, List.setIfInBounds_toArray, List.set_cons_zero, List.set_cons_succ]
      refine' plan_take _ (by rfl) _ (by rfl) ?_ ?_
      rotate_left
      · rintro _ ⟨x, rfl⟩
        have hxm0 := m0 x
        have hxm1 := m1 x
        have hxm2 := m2 x
        have hxm3 := m3 x
        have hxz0 := z0 x
        have hxz1 := z1 x
        go_simp
        try with_reducible rfl
      try simp only [Act.put, List.setIfInBounds_toArray, List.set_cons_zero, List.set_cons_succ]
      refine' plan_take _ (by rfl) _ (by rfl) ?_ ?_
      rotate_left
      · rintro _ ⟨x, rfl⟩
        have hxm0 := m0 x
        have hxm1 := m1 x
        have hxm2 := m2 x
        have hxm3 := m3 x
        have hxz0 := z0 x
        have hxz1 := z1 x
        go_simp
        try with_reducible rfl
      try simp only [Act.put, List.setIfInBounds_toArray, List.set_cons_zero, List.set_cons_succ]
      refine' plan_take _ (by rfl) _ (by rfl) ?_ ?_
      rotate_left
      · rintro _ ⟨x, rfl⟩
        have hxm0 := m0 x
        have hxm1 := m1 x
        have hxm2 := m2 x
        have hxm3 := m3 x
        have hxz0 := z0 x
        have hxz1 := z1 x
        go_simp
        try with_reducible rfl
      try simp only [Act.put, List.setIfInBounds_toArray, List.set_cons_zero, List.set_cons_succ]
      refine' plan_take _ (by rfl) _ (by rfl) ?_ ?_
      rotate_left
      · rintro _ ⟨x, rfl⟩
        have hxm0 := m0 x
        have hxm1 := m1 x
        have hxm2 := m2 x
        have hxm3 := m3 x
        have hxz0 := z0 x
        have hxz1 := z1 x
        go_simp
        try with_reducible rfl
      try simp only [Act.put, List.setIfInBounds_toArray, List.set_cons_zero, List.set_cons_succ]
      refine' plan_take _ (by rfl) _ (by rfl) ?_ ?_
      rotate_left
      · rintro _ ⟨x, rfl⟩
        have hxm0 := m0 x
        have hxm1 := m1 x
        have hxm2 := m2 x
        have hxm3 := m3 x
        have hxz0 := z0 x
        have hxz1 := z1 x
        go_simp
        try with_reducible rfl
      try simp only [Act.put, List.setIfInBounds_toArray, List.set_cons_zero, List.set_cons_succ]
      refine' plan_take _ (by rfl) _ (by rfl) ?_ ?_
      rotate_left
      · rintro _ ⟨x, rfl⟩
        have hxm0 := m0 x
        have hxm1 := m1 x
        have hxm2 := m2 x
        have hxm3 := m3 x
        have hxz0 := z0 x
        have hxz1 := z1 x
        go_simp
        try with_reducible rfl
      try simp only [Act.put, List.setIfInBounds_toArray, List.set_cons_zero, List.set_cons_succ]
      refine' plan_take _ (by rfl) _ (by rfl) ?_ ?_
      rotate_left
      · rintro _ ⟨x, rfl⟩
        have hxm0 := m0 x
        have hxm1 := m1 x
        have hxm2 := m2 x
        have hxm3 := m3 x
        have hxz0 := z0 x
        have hxz1 := z1 x
        go_simp
        try with_reducible rfl
      try simp only [Act.put, List.setIfInBounds_toArray, List.set_cons_zero, List.set_cons_succ]
      refine' plan_take _ (by rfl) _ (by rfl) ?_ ?_
      rotate_left
      · rintro _ ⟨x, rfl⟩
        have hxm0 := m0 x
        have hxm1 := m1 x
        have hxm2 := m2 x
        have hxm3 := m3 x
        have hxz0 := z0 x
        have hxz1 := z1 x
        go_simp
        try with_reducible rfl
      try simp only [Act.put, List.setIfInBounds_toArray, List.set_cons_zero, List.set_cons_succ]
      refine' plan_take _ (by rfl) _ (by rfl) ?_ ?_
      rotate_left
      · rintro _ ⟨x, rfl⟩
        have hxm0 := m0 x
        have hxm1 := m1 x
        have hxm2 := m2 x
        have hxm3 := m3 x
        have hxz0 := z0 x
        have hxz1 := z1 x
        go_simp
        try with_reducible rfl
      try simp only [Act.put, List.setIfInBounds_toArray, List.set_cons_zero, List.set_cons_succ]
      refine' plan_take _ (by rfl) _ (by rfl) ?_ ?_
      rotate_left
      · rintro _ ⟨x, rfl⟩
        have hxm0 := m0 x
        have hxm1 := m1 x
        have hxm2 := m2 x
        have hxm3 := m3 x
        have hxz0 := z0 x
        have hxz1 := z1 x
        go_simp
        try with_reducible rfl
      try simp only [Act.put, List.setIfInBounds_toArray, List.set_cons_zero, List.set_cons_succ]
      refine plan_do _ (by rfl) (by rfl) (fun K hK => ?_)
      go_simp
      try go_simp
      refine hK.out _ _ (hI9) ?_
      clear hK K
      try simp only [Act.put, List.setIfInBounds_toArray, List.set_cons_zero, List.set_cons_succ]
      refine' plan_take _ (by rfl) _ (by rfl) ?_ ?_
      rotate_left
      · rintro _ ⟨x, rfl⟩
        go_simp
        try with_reducible rfl
      try simp only [Act.put, List.setIfInBounds_toArray, List.set_cons_zero, List.set_cons_succ]
      refine plan_do _ (by rfl) (by rfl) (fun K hK => ?_)
      go_simp
      try go_simp
      refine hK.out _ _ (hI10) ?_
      clear hK K
      try simp only [Act.put, List.setIfInBounds_toArray, List.set_cons_zero, List.set_cons_succ]
      refine plan_nil ?_
      clear m0 m1 m2 m3 z0 z1 dk8 ek8 hw9 hw10 hI8 hI9 hI10
      have kk1 := OwnH.hrow HT.out.2.1.1
      have kk2 := OwnH.hrow HT.out.2.1.2.1
      have kk3 := OwnH.hrow HT.out.2.1.2.2
      rw [hRW.2.1] at kk1
      rw [hRW.2.2.1] at kk2
      have hpu := HG.out.2.2.2.2 w10 _ HT.out.1 (vk := .slice (some ⟨gk, 0, none⟩) lk ck) (vv := .slice (some ⟨gv, 0, none⟩) lk cv) (vc := .slice Ac lc cc) kk1 kk2 kk3
      unfold bnV at hpu
      rw [show (Bt.setN n0 k0 e).size = sz from HK.out.2.2.2.2.2.1] at hpu
      have HPU := Lib.hid hpu
      have p10 := HT.out.2.2.1
      have t10 := HT.out.2.2.2.1
      have x0 : (w10).cell? ⟨w.heap.size, 0, none⟩ = some (PV ps) := by rw [cell_of_block t10]; rfl
      have x1 : (w10).cell? ⟨w.heap.size, 1, none⟩ = some (.int .i64 t) := by rw [cell_of_block t10]; rfl
      have y0 : (w10).cell? ⟨w1.heap.size, 0, none⟩ = some (.slice (some ⟨gk, 0, none⟩) lk ck) := by rw [cell_of_block p10]; rfl
      have y1 : (w10).cell? ⟨w1.heap.size, 1, none⟩ = some (.slice (some ⟨gv, 0, none⟩) lk cv) := by rw [cell_of_block p10]; rfl
      have y2 : (w10).cell? ⟨w1.heap.size, 2, none⟩ = some (.slice Ac lc cc) := by rw [cell_of_block p10]; rfl
      have y3 : (w10).cell? ⟨w1.heap.size, 3, none⟩ = some (.int .u64 sz) := by rw [cell_of_block p10]; rfl
      clear hpu kk1 kk2 kk3 p10 t10 hRW
      go_wp2_with fail
      refine HPU.out.mono ?_
      rintro en w11 ⟨rfl, st11, kp11⟩
      have r11 := (kp11.block (w.heap.size + 2) (Or.inr ⟨by omega, by omega⟩)).trans HT.out.2.2.2.2.1
      have q11 := (kp11.block w2.heap.size (Or.inr ⟨by omega, by have := hsz8; have : w2.heap.size < w8.heap.size := HQ8.out; omega⟩)).trans HT.out.2.2.2.2.2.1
      have k11 := (Keep.of_below (HG.out.1.1.trans (B18.mono HG.out.1.1.size)) HG.out.1.2.2.2.2.2.2).trans (HT.out.2.2.2.2.2.2.1.trans (kp11.mono fun k hk => Or.inl hk))
      clear x0 x1 y0 y1 y2 y3
      have x0 : (w11).cell? ⟨w2.heap.size, 0, none⟩ = some (.int .u64 (e0.kh : Nat)) := by rw [cell_of_block q11]; rfl
      have x1 : (w11).cell? ⟨w2.heap.size, 1, none⟩ = some (.int .u64 (e0.vh : Nat)) := by rw [cell_of_block q11]; rfl
      have y0 : (w11).cell? ⟨w.heap.size + 2, 0, none⟩ = some (.int .u64 0) := by rw [cell_of_block r11]; rfl
      have y1 : (w11).cell? ⟨w.heap.size + 2, 1, none⟩ = some (.int .u64 0) := by rw [cell_of_block r11]; rfl
      have f0 : (w11).frozen? ⟨w.heap.size + 2, 0, none⟩ = false := frozen_of_block r11
      have f1 : (w11).frozen? ⟨w.heap.size + 2, 1, none⟩ = false := frozen_of_block r11
      have H11 := Lib.hid (And.intro st11 (And.intro k11 r11))
      clear st11 kp11 r11 q11 k11 HPU
      go_wp2_with fail
      have qF := st2_heap H11.out.2.2 (.int .u64 (e0.kh : Nat)) (.int .u64 (e0.vh : Nat))
      have oF : ∀ k, k ≠ w.heap.size + 2 → ((w11.setCell ⟨w.heap.size + 2, 0, none⟩ (.int .u64 (e0.kh : Nat))).setCell ⟨w.heap.size + 2, 1, none⟩ (.int .u64 (e0.vh : Nat))).heap[k]? = w11.heap[k]? := fun k hk => st2_other hk _ _
      have sF : StOn ((w11.setCell ⟨w.heap.size + 2, 0, none⟩ (.int .u64 (e0.kh : Nat))).setCell ⟨w.heap.size + 2, 1, none⟩ (.int .u64 (e0.vh : Nat))) ps (putWords S g 0 (bnWords t (Bt.setN n0 k0 e))) Y := (H11.out.1.write (b := w.heap.size + 2) (Or.inr ⟨by omega, by omega⟩) H11.out.2.2 ⟨by decide, by decide⟩ (by simp) (by simp) fun k _ hk => oF k hk).mono fun k hk => Or.inl hk
      have kF : Keep Y w ((w11.setCell ⟨w.heap.size + 2, 0, none⟩ (.int .u64 (e0.kh : Nat))).setCell ⟨w.heap.size + 2, 1, none⟩ (.int .u64 (e0.vh : Nat))) := H11.out.2.1.trans ⟨rfl, rfl, rfl, by simp, fun k hk => oF k (by have := HG.out.1.2.2.2.2.2.2 k hk; omega)⟩
      clear x0 x1 y0 y1 f0 f1 oF
      generalize ((w11.setCell ⟨w.heap.size + 2, 0, none⟩ (.int .u64 (e0.kh : Nat))).setCell ⟨w.heap.size + 2, 1, none⟩ (.int .u64 (e0.vh : Nat))) = WF at *
      have x0 : (WF).cell? ⟨w.heap.size + 2, 0, none⟩ = some (.int .u64 (e0.kh : Nat)) := by rw [cell_of_block qF]; rfl
      have x1 : (WF).cell? ⟨w.heap.size + 2, 1, none⟩ = some (.int .u64 (e0.vh : Nat)) := by rw [cell_of_block qF]; rfl
      exact bodyPost_ret (v := .agg #[.int .u64 (e0.kh : Nat), .int .u64 (e0.vh : Nat)]) (by simp [results, Tryz.f191, go_sem, x0, x1]) rfl ⟨rfl, sF, kF⟩
    | false =>
      have hnd := HY.out.2.2.2
      obtain ⟨c, hc⟩ : ∃ c, (Bn.ks y)[belowB e.k (Bn.es y)]? = some c := by
        cases hc : (Bn.ks y)[belowB e.k (Bn.es y)]? with
        | some c => exact ⟨c, rfl⟩
        | none =>
          rw [Bt.nodeB_none (by rw [HEK.out]; exact HK.out.2.1) hc] at hnd
          cases hnd
      rw [Bt.nodeB_down (by rw [HEK.out]; exact HK.out.2.1) hc] at hnd
      rw [HEK.out, HK.out.1] at hc
      cases d' with
      | zero => rw [Bt.nil_of_zero (Bn.ks y)] at hc; cases hc
      | succ d' =>
        obtain ⟨gc, oc, rfl, hcc⟩ := HRow.at (f := Bt.hd) (l := Bn.ks y) (by have := (H1.out.2.2.1.below HB2.out).c.hrow; rw [← HK.out.2.2.2.2.1] at this; exact this) hc
        obtain ⟨hkc, hck⟩ := List.getElem?_eq_some_iff.1 hc
        rw [HK.out.2.2.2.1] at hkc
        have hkc2 : (k : Int) < lc := by omega
        have hlc0 : ((lc : Nat) : Int) ≠ 0 := by omega
        obtain ⟨nc, hnc⟩ : ∃ nc, Bt.hd c = nc := ⟨_, rfl⟩
        rw [hnc] at hcc
        have HC := Lib.hid (And.intro hc (And.intro hnd (And.intro hnc hck)))
        clear hc hnd hnc hck
        go_wp2_with fail
        go_roundw
        case rel => exact ⟨d', i + 1, nc, rfl, by simp, by omega, H1.out.1.trans (HB2.out.mono H1.out.1.size), c, HY.out.2.1.kid (List.mem_of_getElem? HC.out.1), HC.out.2.2.1, HC.out.2.1⟩
        case measure => simp [intOf]; omega
end Go.Proofs.YtepdkbmnkjfcpaaGreatDoor
