/- B-trees: At: the walk. The backend of B-trees: its methods: the walks. -/
import Derived.Test.YtepdkbmnkjfcpaaGreatDoorVbb
import Derived.Test.YtepdkbmnkjfcpaaGreatDoorVbh
import Derived.Test.YtepdkbmnkjfcpaaGreatDoorVbd
set_option maxRecDepth 100000
set_option maxHeartbeats 6400000
namespace Go.Proofs.YtepdkbmnkjfcpaaGreatDoor
open Go.RowKit Go.BigFrame Go.Maps Go.WideMaps Lf Tr
theorem lo_sumK {S : St} {o : Nat → Nat} {t d : Nat} {x : Bt (d + 2)} (h : Bt.Walk S o t x) {i : Nat} (hi : i ≤ (Bn.es x).length) : (Bt.lo ((Bn.es x).take i) (((Bn.ks x).map Bt.its).take i)).length = i + sumK x i := by
  have := Bt.Ok.kids h.ok
  rw [Bt.lo_length _ _ (by rw [List.length_take, List.length_take, List.length_map]; omega), List.length_take]
  unfold sumK
  rw [← List.map_take, List.map_map, Nat.min_eq_left hi]
  rfl
theorem Bt.Walk.at_kid {S : St} {o : Nat → Nat} {t d : Nat} {x : Bt (d + 2)} (h : Walk S o t x) {i m : Nat} (hi : i < (Bn.ks x).length) (hm : m < (its (Bn.ks x)[i]).length) : (its x)[i + sumK x i + m]? = (its (Bn.ks x)[i])[m]? := by
  have hk := Bt.Ok.kids h.ok
  rw [its_mk, weave_kid (k := i) (by omega) h.ok.rows, getD_its hi, List.getElem?_append_right (by rw [lo_sumK h (by omega)]; omega), lo_sumK h (by omega), Nat.add_sub_cancel_left, List.getElem?_append_left hm]
theorem Bt.Walk.at_here {S : St} {o : Nat → Nat} {t d : Nat} {x : Bt (d + 2)} (h : Walk S o t x) {i : Nat} (hi : i < (Bn.ks x).length) (he : i < (Bn.es x).length) : (its x)[i + sumK x i + (its (Bn.ks x)[i]).length]? = (Bn.es x)[i]? := by
  rw [its_mk, weave_kid (k := i) (by omega) h.ok.rows, getD_its hi, List.getElem?_append_right (by rw [lo_sumK h (by omega)]; omega), lo_sumK h (by omega), Nat.add_sub_cancel_left, List.getElem?_append_right (Nat.le_refl _), Nat.sub_self, hiR_lt he, List.getElem?_eq_getElem he]
  rfl
theorem btree_at {w : World} {ps : Nat} {S : St} {o : Nat → Nat} {Y : Nat → Prop} (h : StOn w ps S Y) {t d : Nat} {x : Bt (d + 1)} (hx : Bt.Walk S o t x) (hd : d < 40) {k : Nat} {e : It} (hke : (Bt.its x)[k]? = some e) :
    Calls Tryz.prog 347 #[PV ps, .int .i64 t, .int .u64 (Bt.hd x : Nat), .int .i64 k] w fun e' w' => e' = .returned (.tuple #[itV e.kh e.vh, .int .i64 0]) ∧ Below w.heap.size w w' := by
  have hkl : k < (Bt.its x).length := (List.getElem?_eq_some_iff.1 hke).1
  have B1 := (Below.refl w.heap.size w).alloc (Nat.le_refl _) (.cells #[.int .u64 0, .int .u64 0] 105)
  have B0 := B1.alloc (by simp) (.cells #[PV ps, .int .i64 t] 221)
  have z1 : (w.alloc (.cells #[.int .u64 0, .int .u64 0] 105)).heap.size = w.heap.size + 1 := by simp
  have q1 := heap_alloc_new w (.cells #[.int .u64 0, .int .u64 0] 105)
  have q3 := heap_alloc_new (w.alloc (.cells #[.int .u64 0, .int .u64 0] 105)) (.cells #[PV ps, .int .i64 t] 221)
  have q2 := (((Below.refl (w.alloc (.cells #[.int .u64 0, .int .u64 0] 105)).heap.size (w.alloc (.cells #[.int .u64 0, .int .u64 0] 105))).alloc (Nat.le_refl _) (.cells #[PV ps, .int .i64 t] 221)).block w.heap.size (by simp)).trans q1
  rw [z1] at q3
  have hz : w.heap.size + 2 ≤ ((w.alloc (.cells #[.int .u64 0, .int .u64 0] 105)).alloc (.cells #[PV ps, .int .i64 t] 221)).heap.size := by simp
  have hi := hx.fit.inv
  have has := bt_asked (h.below B1) hi hx.t1 hx.t2
  generalize hWa : w.alloc (.cells #[.int .u64 0, .int .u64 0] 105) = Wa at *
  generalize hW : Wa.alloc (.cells #[PV ps, .int .i64 t] 221) = W0 at *
  have hza : Wa.heap.size = w.heap.size + 1 := z1
  have hget := fun W (hw : Below W0.heap.size W0 W) {n : BN} {hh : Nat} (hb : BnAt S t hh n) => bt_get (h.below (B0.trans (hw.mono B0.size))) hi hb
  have hsize := fun W (hw : Below W0.heap.size W0 W) {n : BN} {hh : Nat} (hb : BnAt S t hh n) hz => bt_size (h.below (B0.trans (hw.mono B0.size))) hi hb hz
  have hs0 := hsize W0 (Below.refl _ _) hx.read hx.size.2
  have hs0 : Calls Tryz.prog 158 #[trB ps t, .int .u64 (Bt.hd x : Nat)] W0 fun e w' => e = .returned (.int .i64 ((Bt.its x).length : Nat)) ∧ Below W0.heap.size W0 w' := hs0
  have x0 : (W0).cell? ⟨w.heap.size + 1, 0, none⟩ = some (PV ps) := by rw [cell_of_block q3]; rfl
  have x1 : (W0).cell? ⟨w.heap.size + 1, 1, none⟩ = some (.int .i64 t) := by rw [cell_of_block q3]; rfl
  have HG := Lib.hid (And.intro (And.intro B0 (And.intro q2 (And.intro q3 hz))) (And.intro @hget (And.intro @hsize has)))
  have HX := Lib.hid hx
  have hfew := hx.few
  obtain ⟨n0, hn0⟩ : ∃ n0, Bt.hd x = n0 := ⟨_, rfl⟩
  obtain ⟨L, hL⟩ : ∃ L, (Bt.its x).length = L := ⟨_, rfl⟩
  rw [hn0, hL] at hs0
  rw [hL] at hkl hfew
  have HR := Lib.hid (And.intro hke hn0)
  rw [hn0]
  unfold trB at hs0
  have H0 := Lib.hid hs0
  have hkL : ¬ ((L : Int) ≤ k) := by omega
  have hk0 : ((k : Int) < 0) = False := eq_false (by omega)
  have hkN : (L ≤ k) = False := eq_false (by omega)
  clear hget hsize h hx hi B0 B1 q1 q2 q3 z1 hz has hs0 hke hn0 hL
  go_enter Tryz.func347, Tryz.ntmps347
  go_wp2_with fail
  refine HG.out.2.2.2.mono ?_
  rintro e w1 ⟨rfl, rfl⟩
  go_wp2_with fail
  refine H0.out.mono ?_
  rintro e w1 ⟨rfl, hb1⟩
  have HB1 := Lib.hid hb1
  clear hb1 x0 x1
  go_wp2_with fail
  go_loopw [2, 3, 12, 13, 14, 15, 36] (fun s2 s3 _ _ _ _ s36 wr => ∃ (d' i kk hh : Nat), s2 = .int .u64 hh ∧ s3 = .int .i64 kk ∧ s36 = .int .i64 i ∧ i + d' < 40 ∧ kk ≤ 1000000 ∧ Hid (Below W0.heap.size W0 wr ∧ ∃ y : Bt (d' + 1), Bt.Walk S o t y ∧ Bt.hd y = hh ∧ (Bt.its y)[kk]? = some e)) (fun _ _ _ _ _ _ s36 _ => 40 - (intOf s36).toNat)
  case atStart => exact ⟨d, 0, k, n0, rfl, rfl, rfl, by omega, by omega, HB1.out, x, HX.out, HR.out.2, HR.out.1⟩
  case round =>
    obtain ⟨d', i, kk, hh, rfl, rfl, rfl, hid, hbl, I⟩ := hrel
    obtain ⟨hB, y, hy, hhy, hky⟩ := I.out
    have hlt : (i : Int) < 40 := by omega
    have t3 := (hB.block (w.heap.size + 1) (by have := HG.out.1.2.2.2; omega)).trans HG.out.1.2.2.1
    have x0 : (wr).cell? ⟨w.heap.size + 1, 0, none⟩ = some (PV ps) := by rw [cell_of_block t3]; rfl
    have x1 : (wr).cell? ⟨w.heap.size + 1, 1, none⟩ = some (.int .i64 t) := by rw [cell_of_block t3]; rfl
    have hget := HG.out.2.1 wr hB hy.read
    unfold trB bnV at hget
    rw [hhy] at hget
    have HY := Lib.hid (And.intro hB (And.intro hy hky))
    clear hB hy hhy hky t3
    obtain ⟨n, hn⟩ : ∃ n, Bt.bn y = n := ⟨_, rfl⟩
    rw [hn] at hget
    have HGT := Lib.hid hget
    clear hget
    go_wp2_with fail
    refine HGT.out.mono ?_
    rintro e w1 ⟨vk, vv, vc, rfl, rows, hb⟩
    obtain ⟨Ak, ck, rfl⟩ := rows.k.slice2
    obtain ⟨Av, cv, rfl⟩ := rows.v.slice2
    obtain ⟨Ac, cc, rfl⟩ := rows.c.slice2
    have hkl : n.keys.length = (Bn.es y).length := by rw [← hn]; unfold Bt.bn; rw [List.length_map]
    have hvl : n.vals.length = (Bn.es y).length := by rw [← hn]; unfold Bt.bn; rw [List.length_map]
    have hcl : n.kids.length = (Bn.ks y).length := by rw [← hn]; unfold Bt.bn; rw [List.length_map]
    rw [hkl] at rows
    rw [hvl] at rows
    rw [hcl] at rows
    rw [hkl, hvl, hcl]
    generalize n.size = sz at *
    have hy := HY.out.2.1
    have es3 := hy.es.2.2
    generalize hlk : (Bn.es y).length = lk at *
    generalize hlc : (Bn.ks y).length = lc at *
    have A1 := (Below.refl w1.heap.size w1).alloc (Nat.le_refl _) (.cells #[.slice Ak lk ck, .slice Av lk cv, .slice Ac lc cc, .int .u64 sz] 267)
    have p1 := heap_alloc_new w1 (.cells #[.slice Ak lk ck, .slice Av lk cv, .slice Ac lc cc, .int .u64 sz] 267)
    have B1 := HY.out.1.trans ((hb.trans (A1.mono hb.size)).mono HY.out.1.size)
    have rows1 := rows.below A1
    have hlt1 : w1.heap.size < (w1.alloc (.cells #[.slice Ak lk ck, .slice Av lk cv, .slice Ac lc cc, .int .u64 sz] 267)).heap.size := by simp
    obtain ⟨W1, hW1⟩ : ∃ W1, w1.alloc (.cells #[.slice Ak lk ck, .slice Av lk cv, .slice Ac lc cc, .int .u64 sz] 267) = W1 := ⟨_, rfl⟩
    rw [hW1] at A1 p1 B1 rows1 hlt1
    have t3 := (B1.block (w.heap.size + 1) (by have := HG.out.1.2.2.2; omega)).trans HG.out.1.2.2.1
    have q6 := (B1.block w.heap.size (by have := HG.out.1.2.2.2; omega)).trans HG.out.1.2.1
    have hrk := rows1.k.hrow
    have hrv := rows1.v.hrow
    have hrc := rows1.c.hrow
    rw [← hn] at hrk hrv hrc
    have hrk : HRow W1 (.slice Ak lk ck) ((Bn.es y).map (·.kh)) := hrk
    have hrv : HRow W1 (.slice Av lk cv) ((Bn.es y).map (·.vh)) := hrv
    have hrc : HRow W1 (.slice Ac lc cc) ((Bn.ks y).map Bt.hd) := hrc
    have hwz := HY.out.1.size
    have hz2 := HG.out.1.2.2.2
    have gek : ∀ g o, Ak = some ⟨g, o, none⟩ → w.heap.size ≠ g := fun g o e => by subst e; have := rows1.k.ge g rfl; omega
    have gev : ∀ g o, Av = some ⟨g, o, none⟩ → w.heap.size ≠ g := fun g o e => by subst e; have := rows1.v.ge g rfl; omega
    have gec : ∀ g o, Ac = some ⟨g, o, none⟩ → w.heap.size ≠ g := fun g o e => by subst e; have := rows1.c.ge g rfl; omega
    have hne1 : w.heap.size ≠ w1.heap.size := by have := hb.size; omega
    have hne2 : w.heap.size + 1 < W1.heap.size := by have := B1.size; omega
    have H1 := Lib.hid (And.intro B1 (And.intro p1 (And.intro (And.intro hrk (And.intro hrv hrc)) (And.intro t3 (And.intro hlt1 q6)))))
    have HN := Lib.hid (And.intro gek (And.intro gev (And.intro gec (And.intro hne1 hne2))))
    have HK := Lib.hid (And.intro hlk hlc)
    clear gek gev gec hne1 hne2 hwz hz2 rows rows1 hb A1 p1 B1 t3 hrk hrv hrc HGT hkl hvl hcl hn hlt1 q6 hlk hlc hy x0 x1
    have HB2 := Lib.hid (Below.refl W1.heap.size W1)
    obtain ⟨su, hsu⟩ : ∃ su : Nat → Nat, sumK y = su := ⟨_, rfl⟩
    have hsu0 : su 0 = 0 := by rw [← hsu]; simp [sumK]
    have HSU := Lib.hid hsu
    clear hsu
    have p2 := H1.out.2.1
    have y0 : (W1).cell? ⟨w1.heap.size, 0, none⟩ = some (.slice Ak lk ck) := by rw [cell_of_block p2]; rfl
    have y1 : (W1).cell? ⟨w1.heap.size, 1, none⟩ = some (.slice Av lk cv) := by rw [cell_of_block p2]; rfl
    have y2 : (W1).cell? ⟨w1.heap.size, 2, none⟩ = some (.slice Ac lc cc) := by rw [cell_of_block p2]; rfl
    have y3 : (W1).cell? ⟨w1.heap.size, 3, none⟩ = some (.int .u64 sz) := by rw [cell_of_block p2]; rfl
    go_wp2_with fail
    clear y0 y1 y2 y3 p2 hW1
    go_loopw [3, 14, 15] (fun s3 s14 _ wr => ∃ j q : Nat, j ≤ lk ∧ s3 = .int .i64 q ∧ s14 = .int .i64 j ∧ j + su j + q = kk ∧ Hid (Below W1.heap.size W1 wr)) (fun _ s14 _ _ => lk - (intOf s14).toNat)
    case atStart => exact ⟨0, kk, by omega, rfl, rfl, by rw [hsu0]; omega, HB2⟩
    case round =>
      obtain ⟨j, q, hjl, rfl, rfl, hjq, HBr⟩ := hrel
      have p2 := (HBr.out.block w1.heap.size H1.out.2.2.2.2.1).trans H1.out.2.1
      have t2 := (HBr.out.block (w.heap.size + 1) HN.out.2.2.2.2).trans H1.out.2.2.2.1
      have q2 := (HBr.out.block w.heap.size (by have := HN.out.2.2.2.2; omega)).trans H1.out.2.2.2.2.2
      have x0 : (wr).cell? ⟨w.heap.size + 1, 0, none⟩ = some (PV ps) := by rw [cell_of_block t2]; rfl
      have x1 : (wr).cell? ⟨w.heap.size + 1, 1, none⟩ = some (.int .i64 t) := by rw [cell_of_block t2]; rfl
      have y0 : (wr).cell? ⟨w1.heap.size, 0, none⟩ = some (.slice Ak lk ck) := by rw [cell_of_block p2]; rfl
      have y1 : (wr).cell? ⟨w1.heap.size, 1, none⟩ = some (.slice Av lk cv) := by rw [cell_of_block p2]; rfl
      have y2 : (wr).cell? ⟨w1.heap.size, 2, none⟩ = some (.slice Ac lc cc) := by rw [cell_of_block p2]; rfl
      have y3 : (wr).cell? ⟨w1.heap.size, 3, none⟩ = some (.int .u64 sz) := by rw [cell_of_block p2]; rfl
      have z0 : (wr).cell? ⟨w.heap.size, 0, none⟩ = some (.int .u64 0) := by rw [cell_of_block q2]; rfl
      have z1 : (wr).cell? ⟨w.heap.size, 1, none⟩ = some (.int .u64 0) := by rw [cell_of_block q2]; rfl
      have f0 : (wr).frozen? ⟨w.heap.size, 0, none⟩ = false := frozen_of_block q2
      have f1 : (wr).frozen? ⟨w.heap.size, 1, none⟩ = false := frozen_of_block q2
      have HQ := Lib.hid q2
      clear p2 t2 q2
      cases d' with
      | zero =>
        have hc0 : lc = 0 := by rw [← HK.out.2, Bt.nil_of_zero (Bn.ks y)]; rfl
        subst hc0
        have hsj : su j = 0 := by rw [← HSU.out]; unfold sumK; rw [Bt.nil_of_zero (Bn.ks y)]; simp
        have hky := HY.out.2.2
        rw [Bt.its_leaf] at hky
        have hkn := (List.getElem?_eq_some_iff.1 hky).1
        rw [HK.out.1] at hkn
        have hjlt : j < lk := by omega
        have hjlt2 : (j : Int) < lk := by omega
        by_cases hq0 : q = 0
        · subst hq0
          have hkj : kk = j := by omega
          rw [hkj] at hky
          obtain ⟨gk, ok, rfl, hck⟩ := HRow.at (f := fun d : It => d.kh) (l := Bn.es y) H1.out.2.2.1.1 hky
          obtain ⟨gv, ov, rfl, hcv⟩ := HRow.at (f := fun d : It => d.vh) (l := Bn.es y) H1.out.2.2.1.2.1 hky
          have dk := (HBr.out.cell (p := ⟨gk, ok + j, none⟩) (hcell_lt hck)).trans hck
          have dv := (HBr.out.cell (p := ⟨gv, ov + j, none⟩) (hcell_lt hcv)).trans hcv
          clear hck hcv hky hkn hkj hjq
          go_wp2_with fail
          go_region
          go_wp2_with fail
          have BW : Below w.heap.size w wr := HG.out.1.1.trans ((H1.out.1.trans (HBr.out.mono H1.out.1.size)).mono HG.out.1.1.size)
          have eW := st2_heap HQ.out (.int .u64 (e.kh : Nat)) (.int .u64 (e.vh : Nat))
          have BF := st2_below BW (b := w.heap.size) (by omega) (.int .u64 (e.kh : Nat)) (.int .u64 (e.vh : Nat))
          generalize ((wr.setCell ⟨w.heap.size, 0, none⟩ (.int .u64 (e.kh : Nat))).setCell ⟨w.heap.size, 1, none⟩ (.int .u64 (e.vh : Nat))) = WF at *
          have eW : WF.drew.heap[w.heap.size]? = _ := eW
          have e0 : (WF.drew).cell? ⟨w.heap.size, 0, none⟩ = some (.int .u64 (e.kh : Nat)) := by rw [cell_of_block eW]; rfl
          have e1 : (WF.drew).cell? ⟨w.heap.size, 1, none⟩ = some (.int .u64 (e.vh : Nat)) := by rw [cell_of_block eW]; rfl
          exact bodyPost_ret (v := .tuple #[.agg #[.int .u64 (e.kh : Nat), .int .u64 (e.vh : Nat)], .int .i64 0]) (by simp [results, Tryz.f347, go_sem, e0, e1]) rfl ⟨rfl, BF.drew⟩
        · have hq1 : ¬ ((q : Int) ≤ 0) := by omega
          have hw1 : IntKind.i64.wrap ((q : Int) - 1) = (q : Int) - 1 := IntWalk.i64_in _ (by omega)
          have hsj1 : su (j + 1) = 0 := by rw [← HSU.out]; unfold sumK; rw [Bt.nil_of_zero (Bn.ks y)]; simp
          clear hky
          go_wp2_with fail
          go_roundw
          case rel => exact ⟨j + 1, q - 1, by omega, by congr 1; omega, by simp, by omega, HBr⟩
          case measure => simp [intOf]; omega
      | succ d' =>
        have hy := HY.out.2.1
        have hkids := Bt.Ok.kids hy.ok
        rw [HK.out.1, HK.out.2] at hkids
        have hlc0 : (0 : Int) < lc := by omega
        have hjc : j < (Bn.ks y).length := by rw [HK.out.2]; omega
        have hjc2 : (j : Int) < lc := by omega
        have hee : (Bn.ks y)[j]? = some (Bn.ks y)[j] := List.getElem?_eq_getElem hjc
        obtain ⟨gc, oc, rfl, hcc⟩ := HRow.at (f := Bt.hd) (l := Bn.ks y) H1.out.2.2.1.2.2 hee
        have hkj0 := hy.kid (List.getElem_mem hjc)
        have hsj := fun W (hW : Below W1.heap.size W1 W) => HG.out.2.2.1 W (H1.out.1.trans (hW.mono H1.out.1.size)) hkj0.read hkj0.size.2
        have hsj : ∀ W, Below W1.heap.size W1 W → Calls Tryz.prog 158 #[trB ps t, .int .u64 (Bt.hd (Bn.ks y)[j] : Nat)] W fun e w' => e = .returned (.int .i64 ((Bt.its (Bn.ks y)[j]).length : Nat)) ∧ Below W.heap.size W w' := hsj
        unfold trB at hsj
        have hat := fun m => hy.at_kid (m := m) hjc
        have hah := fun h => hy.at_here hjc h
        have hss := sumK_succ hjc
        have hsl := sumK_le hy j
        have hfw := hkj0.few
        rw [HSU.out] at hat hah hss hsl
        obtain ⟨kj, hkj⟩ : ∃ kj, (Bn.ks y)[j] = kj := ⟨_, rfl⟩
        rw [hkj] at hsj hat hah hss hcc hkj0 hfw
        obtain ⟨nj, hnj⟩ : ∃ nj, Bt.hd kj = nj := ⟨_, rfl⟩
        obtain ⟨zj, hzj⟩ : ∃ zj, (Bt.its kj).length = zj := ⟨_, rfl⟩
        rw [hnj] at hsj hcc
        rw [hzj] at hsj hat hah hss hfw
        have dc := (HBr.out.cell (p := ⟨gc, oc + j, none⟩) (hcell_lt hcc)).trans hcc
        have hgc := HN.out.2.2.1 gc oc rfl
        have HJ := Lib.hid (And.intro hat (And.intro hah (And.intro hss (And.intro hkj0 (And.intro hnj (And.intro hzj (And.intro hsl hfw)))))))
        have HS := Lib.hid hsj
        have HJC := Lib.hid hcc
        have hke := HY.out.2.2
        rw [← hjq] at hke
        have HE := Lib.hid hke
        obtain ⟨I, hIi, hIo⟩ := but_class W1 w.heap.size
        have hz1 := fun x : Keeps I => (hIi _ x.ok w1.heap.size H1.out.2.2.2.2.1 (Ne.symm HN.out.2.2.2.1)).trans H1.out.2.1
        have hz2 := fun x : Keeps I => (hIi _ x.ok (w.heap.size + 1) HN.out.2.2.2.2 (by omega)).trans H1.out.2.2.2.1
        have m0 : ∀ x : Keeps I, x.to.cell? ⟨w1.heap.size, 0, none⟩ = some (.slice Ak lk ck) := fun x => by rw [cell_of_block (hz1 x)]; rfl
        have m1 : ∀ x : Keeps I, x.to.cell? ⟨w1.heap.size, 1, none⟩ = some (.slice Av lk cv) := fun x => by rw [cell_of_block (hz1 x)]; rfl
        have m2 : ∀ x : Keeps I, x.to.cell? ⟨w1.heap.size, 2, none⟩ = some (.slice (some ⟨gc, oc, none⟩) lc cc) := fun x => by rw [cell_of_block (hz1 x)]; rfl
        have m3 : ∀ x : Keeps I, x.to.cell? ⟨w1.heap.size, 3, none⟩ = some (.int .u64 sz) := fun x => by rw [cell_of_block (hz1 x)]; rfl
        have n0 : ∀ x : Keeps I, x.to.cell? ⟨w.heap.size + 1, 0, none⟩ = some (PV ps) := fun x => by rw [cell_of_block (hz2 x)]; rfl
        have n1 : ∀ x : Keeps I, x.to.cell? ⟨w.heap.size + 1, 1, none⟩ = some (.int .i64 t) := fun x => by rw [cell_of_block (hz2 x)]; rfl
        have o0 : ∀ x : Keeps I, x.to.cell? ⟨gc, oc + j, none⟩ = some (.int .u64 nj) := fun x => (cell_of_same (hIi _ x.ok gc (hcell_lt hcc) (Ne.symm hgc))).trans hcc
        have hI0 : I wr.drew := hIo _ fun k hk _ => HBr.out.block k hk
        have HI := Lib.hid hIo
        have HKI := Lib.hid hkids
        clear hIo hz1 hz2 hee hsj hcc hgc hat hah hss hkj0 hnj hzj hkj hke hy hsl hkids
        by_cases hjlt : j < lk
        · have hjlt2 : (j : Int) < lk := by omega
          go_wp2_with fail
          refine wp_region_plan I (.take 0 (.take 1 (.take 2 (.take 3 (.take 4 (.take 5 (.go 6 (.take 7 .nil)))))))) (by kernel_rfl) (by kernel_rfl) hI0 ?_
          refine' plan_take _ (by rfl) _ (by rfl) ?_ ?_
          rotate_left
          · rintro _ ⟨x, rfl⟩
            have hxm0 := m0 x
            have hxm1 := m1 x
            have hxm2 := m2 x
            have hxm3 := m3 x
            have hxn0 := n0 x
            have hxn1 := n1 x
            have hxo0 := o0 x
            go_simp
            try with_reducible rfl
          try simp only [Act.put, List.setIfInBounds_toArray, List.set_cons_zero, List.set_cons_succ]
          refine' plan_take _ (by rfl) _ (by rfl) ?_ ?_
          rotate_left
          · rintro _ ⟨x, rfl⟩
            have hxm0 := m0 x
            have hxm1 := m1 x
            have hxm2 := m2 x
            have hxm3 := m3 x
            have hxn0 := n0 x
            have hxn1 := n1 x
            have hxo0 := o0 x
            go_simp
            try with_reducible rfl
          try simp only [Act.put, List.setIfInBounds_toArray, List.set_cons_zero, List.set_cons_succ]
          refine' plan_take _ (by rfl) _ (by rfl) ?_ ?_
          rotate_left
          · rintro _ ⟨x, rfl⟩
            have hxm0 := m0 x
            have hxm1 := m1 x
            have hxm2 := m2 x
            have hxm3 := m3 x
            have hxn0 := n0 x
            have hxn1 := n1 x
            have hxo0 := o0 x
            go_simp
            try with_reducible rfl
          try simp only [Act.put, List.setIfInBounds_toArray, List.set_cons_zero, List.set_cons_succ]
          refine' plan_take _ (by rfl) _ (by rfl) ?_ ?_
          rotate_left
          · rintro _ ⟨x, rfl⟩
            have hxm0 := m0 x
            have hxm1 := m1 x
            have hxm2 := m2 x
            have hxm3 := m3 x
            have hxn0 := n0 x
            have hxn1 := n1 x
            have hxo0 := o0 x
            go_simp
            try with_reducible rfl
          try simp only [Act.put, List.setIfInBounds_toArray, List.set_cons_zero, List.set_cons_succ]
          refine' plan_take _ (by rfl) _ (by rfl) ?_ ?_
          rotate_left
          · rintro _ ⟨x, rfl⟩
            have hxm0 := m0 x
            have hxm1 := m1 x
            have hxm2 := m2 x
            have hxm3 := m3 x
            have hxn0 := n0 x
            have hxn1 := n1 x
            have hxo0 := o0 x
            go_simp
            try with_reducible rfl
          try simp only [Act.put, List.setIfInBounds_toArray, List.set_cons_zero, List.set_cons_succ]
          refine' plan_take _ (by rfl) _ (by rfl) ?_ ?_
          rotate_left
          · rintro _ ⟨x, rfl⟩
            have hxm0 := m0 x
            have hxm1 := m1 x
            have hxm2 := m2 x
            have hxm3 := m3 x
            have hxn0 := n0 x
            have hxn1 := n1 x
            have hxo0 := o0 x
            go_simp
            try with_reducible rfl
          try simp only [Act.put, List.setIfInBounds_toArray, List.set_cons_zero, List.set_cons_succ]
          refine plan_do _ (by rfl) (by rfl) (fun K hK => ?_)
          go_simp
          refine (HS.out wr.drew HBr.out.drew).mono ?_
          rintro e' w3 ⟨rfl, hb3⟩
          have B3 := HBr.out.drew.trans (hb3.mono HBr.out.size)
          have q3 := (hb3.block w.heap.size (Array.getElem?_eq_some_iff.1 HQ.out).1).trans HQ.out
          have HB3 := Lib.hid (And.intro B3 q3)
          try go_simp
          refine hK.out _ _ (HI.out _ fun k hk _ => HB3.out.1.block k hk) ?_
          clear hK K
          try simp only [Act.put, List.setIfInBounds_toArray, List.set_cons_zero, List.set_cons_succ]
          clear B3 hb3 q3
          refine' plan_take _ (by rfl) _ (by rfl) ?_ ?_
          rotate_left
          · rintro _ ⟨x, rfl⟩
            go_simp
            try with_reducible rfl
          try simp only [Act.put, List.setIfInBounds_toArray, List.set_cons_zero, List.set_cons_succ]
          refine plan_nil ?_
          clear m0 m1 m2 m3 n0 n1 o0 hIi HI I hI0 x0 x1 y0 y1 y2 y3 z0 z1 f0 f1 dc
          have p2 := (HB3.out.1.block w1.heap.size H1.out.2.2.2.2.1).trans H1.out.2.1
          have q2 := HB3.out.2
          have y0 : (w3).cell? ⟨w1.heap.size, 0, none⟩ = some (.slice Ak lk ck) := by rw [cell_of_block p2]; rfl
          have y1 : (w3).cell? ⟨w1.heap.size, 1, none⟩ = some (.slice Av lk cv) := by rw [cell_of_block p2]; rfl
          have y2 : (w3).cell? ⟨w1.heap.size, 2, none⟩ = some (.slice (some ⟨gc, oc, none⟩) lc cc) := by rw [cell_of_block p2]; rfl
          have y3 : (w3).cell? ⟨w1.heap.size, 3, none⟩ = some (.int .u64 sz) := by rw [cell_of_block p2]; rfl
          have z0 : (w3).cell? ⟨w.heap.size, 0, none⟩ = some (.int .u64 0) := by rw [cell_of_block q2]; rfl
          have z1 : (w3).cell? ⟨w.heap.size, 1, none⟩ = some (.int .u64 0) := by rw [cell_of_block q2]; rfl
          have f0 : (w3).frozen? ⟨w.heap.size, 0, none⟩ = false := frozen_of_block q2
          have f1 : (w3).frozen? ⟨w.heap.size, 1, none⟩ = false := frozen_of_block q2
          have dc := (HB3.out.1.cell (p := ⟨gc, oc + j, none⟩) (hcell_lt (HJC.out))).trans HJC.out
          clear p2 q2
          rcases Nat.lt_trichotomy q zj with hq | hq | hq
          · have g1 : (q : Int) ≤ zj := by omega
            have g2 : ((q : Int) == zj) = false := by simp; omega
            have g3 : ¬ (q : Int) = zj := by omega
            go_wp2_with fail
            go_roundw
            case rel => exact ⟨d', i + 1, q, nj, rfl, rfl, by simp, by omega, by have := HJ.out.2.2.2.2.2.2.2; omega, H1.out.1.trans (HB3.out.1.mono H1.out.1.size), kj, HJ.out.2.2.2.1, HJ.out.2.2.2.2.1, by rw [← HJ.out.1 q hq]; exact HE.out⟩
            case measure => simp [intOf]; omega
          · subst hq
            have hke := HE.out
            rw [HJ.out.2.1 (by rw [HK.out.1]; exact hjlt)] at hke
            obtain ⟨gk, ok, rfl, hck⟩ := HRow.at (f := fun d : It => d.kh) (l := Bn.es y) H1.out.2.2.1.1 hke
            obtain ⟨gv, ov, rfl, hcv⟩ := HRow.at (f := fun d : It => d.vh) (l := Bn.es y) H1.out.2.2.1.2.1 hke
            have dk := (HB3.out.1.cell (p := ⟨gk, ok + j, none⟩) (hcell_lt hck)).trans hck
            have dv := (HB3.out.1.cell (p := ⟨gv, ov + j, none⟩) (hcell_lt hcv)).trans hcv
            clear hck hcv hke
            go_wp2_with fail
            go_region
            go_wp2_with fail
            have BW : Below w.heap.size w w3 := HG.out.1.1.trans ((H1.out.1.trans (HB3.out.1.mono H1.out.1.size)).mono HG.out.1.1.size)
            have eW := st2_heap HB3.out.2 (.int .u64 (e.kh : Nat)) (.int .u64 (e.vh : Nat))
            have BF := st2_below BW (b := w.heap.size) (by omega) (.int .u64 (e.kh : Nat)) (.int .u64 (e.vh : Nat))
            generalize ((w3.setCell ⟨w.heap.size, 0, none⟩ (.int .u64 (e.kh : Nat))).setCell ⟨w.heap.size, 1, none⟩ (.int .u64 (e.vh : Nat))) = WF at *
            have eW : WF.drew.heap[w.heap.size]? = _ := eW
            have e0 : (WF.drew).cell? ⟨w.heap.size, 0, none⟩ = some (.int .u64 (e.kh : Nat)) := by rw [cell_of_block eW]; rfl
            have e1 : (WF.drew).cell? ⟨w.heap.size, 1, none⟩ = some (.int .u64 (e.vh : Nat)) := by rw [cell_of_block eW]; rfl
            exact bodyPost_ret (v := .tuple #[.agg #[.int .u64 (e.kh : Nat), .int .u64 (e.vh : Nat)], .int .i64 0]) (by simp [results, Tryz.f347, go_sem, e0, e1]) rfl ⟨rfl, BF.drew⟩
          · have g1 : ¬ (q : Int) ≤ zj := by omega
            have g4 : IntKind.i64.wrap ((zj : Int) + 1) = (zj : Int) + 1 := IntWalk.i64_in _ (by have := HJ.out.2.2.2.2.2.2.2; omega)
            have g5 : IntKind.i64.wrap ((q : Int) - ((zj : Int) + 1)) = (q : Int) - ((zj : Int) + 1) := IntWalk.i64_in _ (by omega)
            go_wp2_with fail
            go_roundw
            case rel => exact ⟨j + 1, q - (zj + 1), by omega, by congr 1; omega, by simp, by have := HJ.out.2.2.1; omega, Lib.hid HB3.out.1⟩
            case measure => simp [intOf]; omega
        · have hjlt2 : ¬ (j : Int) < lk := by omega
          have hjl2 : j = lk := by omega
          have hkkl := (List.getElem?_eq_some_iff.1 HE.out).1
          have hil := Bt.its_length HY.out.2.1.ok.okN
          have hall : su lc = ((Bn.ks y).map fun k => (Bt.its k).length).sum := by rw [← HSU.out]; unfold sumK; rw [List.take_of_length_le (by rw [HK.out.2]; exact Nat.le_refl _)]
          rw [← hall, HK.out.1, HKI.out] at hil
          have hq : q < zj := by have := HJ.out.2.2.1; subst hjl2; omega
          have HQZ := Lib.hid hq
          clear hil hall hkkl hq hjl2
          go_wp2_with fail
          go_roundw
          case rel => exact ⟨d', i + 1, q, nj, rfl, rfl, by simp, by omega, by have := HJ.out.2.2.2.2.2.2.2; have := HQZ.out; omega, H1.out.1.trans (HBr.out.mono H1.out.1.size), kj, HJ.out.2.2.2.1, HJ.out.2.2.2.2.1, by rw [← HJ.out.1 q HQZ.out]; exact HE.out⟩
          case measure => simp [intOf]; omega
end Go.Proofs.YtepdkbmnkjfcpaaGreatDoor
namespace Go.Proofs.YtepdkbmnkjfcpaaGreatDoor
open Go.RowKit Go.BigFrame Go.Maps Go.WideMaps Lf Tr
def manyV (ps t : Nat) : Value := .agg #[PV ps, .int .i64 t]
theorem methM_size (f : Nat) (v : Value) (w : World) : (method (f + 1) 127 v "loft/backend.size").run Tryz.prog w = .ok (346, v) w := by kernel_rfl
theorem enterM_size (args : Array Value) (w : World) : (callFunc 346 args).run Tryz.prog w = .ok (.enter 346 args) w := by kernel_rfl
theorem methM_rank (f : Nat) (v : Value) (w : World) : (method (f + 1) 127 v "loft/backend.rank").run Tryz.prog w = .ok (344, v) w := by kernel_rfl
theorem enterM_rank (args : Array Value) (w : World) : (callFunc 344 args).run Tryz.prog w = .ok (.enter 344 args) w := by kernel_rfl
theorem methM_at (f : Nat) (v : Value) (w : World) : (method (f + 1) 127 v "loft/backend.at").run Tryz.prog w = .ok (341, v) w := by kernel_rfl
theorem enterM_at (args : Array Value) (w : World) : (callFunc 341 args).run Tryz.prog w = .ok (.enter 341 args) w := by kernel_rfl
theorem methM_insert (f : Nat) (v : Value) (w : World) : (method (f + 1) 127 v "loft/backend.insert").run Tryz.prog w = .ok (343, v) w := by kernel_rfl
theorem enterM_insert (args : Array Value) (w : World) : (callFunc 343 args).run Tryz.prog w = .ok (.enter 343 args) w := by kernel_rfl
theorem many_size {w : World} {ps t hh z : Nat} (hs : ∀ W, Below w.heap.size w W → Calls Tryz.prog 350 #[PV ps, .int .i64 t, .int .u64 hh] W fun e w' => e = .returned (.int .i64 z) ∧ Below W.heap.size W w') :
    Calls Tryz.prog 346 #[manyV ps t, .int .u64 hh] w fun e w' => e = .returned (.int .i64 z) ∧ Below w.heap.size w w' := by
  have B0 := (Below.refl w.heap.size w).alloc (Nat.le_refl _) (.cells #[PV ps, .int .i64 t] 127)
  have hs := hs _ B0
  have HG := Lib.hid (And.intro hs B0)
  clear hs B0
  simp only [manyV]
  go_enter Tryz.func346, Tryz.ntmps346
  go_wp2_with fail
  refine HG.out.1.mono ?_
  rintro e w1 ⟨rfl, hb1⟩
  have H1 := Lib.hid (HG.out.2.trans (hb1.mono HG.out.2.size))
  clear hb1
  go_wp2_with fail
  go_ret
  exact ⟨rfl, H1.out⟩
theorem many_rank {w : World} {ps t hh z : Nat} (k : List UInt8) (hs : ∀ W, Below w.heap.size w W → Calls Tryz.prog 348 #[PV ps, .int .i64 t, .int .u64 hh, SV k] W fun e w' => e = .returned (.int .i64 z) ∧ Below W.heap.size W w') :
    Calls Tryz.prog 344 #[manyV ps t, .int .u64 hh, SV k] w fun e w' => e = .returned (.int .i64 z) ∧ Below w.heap.size w w' := by
  have B0 := (Below.refl w.heap.size w).alloc (Nat.le_refl _) (.cells #[PV ps, .int .i64 t] 127)
  have hs := hs _ B0
  have HG := Lib.hid (And.intro hs B0)
  clear hs B0
  simp only [manyV]
  go_enter Tryz.func344, Tryz.ntmps344
  go_wp2_with fail
  refine HG.out.1.mono ?_
  rintro e w1 ⟨rfl, hb1⟩
  have H1 := Lib.hid (HG.out.2.trans (hb1.mono HG.out.2.size))
  clear hb1
  go_wp2_with fail
  go_ret
  exact ⟨rfl, H1.out⟩
theorem many_at {w : World} {ps t hh : Nat} (k : Int) (k0 k1 : Nat) (z : Nat) (hs : ∀ W, Below w.heap.size w W → Calls Tryz.prog 347 #[PV ps, .int .i64 t, .int .u64 hh, .int .i64 k] W fun e w' => e = .returned (.tuple #[itV k0 k1, .int .i64 z]) ∧ Below W.heap.size W w') :
    Calls Tryz.prog 341 #[manyV ps t, .int .u64 hh, .int .i64 k] w fun e w' => e = .returned (.tuple #[itV k0 k1, .int .i64 z]) ∧ Below w.heap.size w w' := by
  have B1 := (Below.refl w.heap.size w).alloc (Nat.le_refl _) (.cells #[PV ps, .int .i64 t] 127)
  have B0 := B1.alloc B1.size (.cells #[.int .u64 0, .int .u64 0] 105)
  have z1 := heap_alloc_new (w.alloc (.cells #[PV ps, .int .i64 t] 127)) (.cells #[.int .u64 0, .int .u64 0] 105)
  simp only [World.size_alloc] at z1
  have ha := hs _ B0
  simp only [itV, manyV] at ha ⊢
  have HG := Lib.hid (And.intro ha (And.intro B0 z1))
  clear ha B0 B1 hs z1
  go_enter Tryz.func341, Tryz.ntmps341
  go_wp2_with fail
  refine HG.out.1.mono ?_
  rintro e w2 ⟨rfl, hb2⟩
  have z2 := (hb2.block (w.heap.size + 1) (by simp)).trans HG.out.2.2
  have d0 : (w2).cell? ⟨(w.heap.size + 1), 0, none⟩ = some (.int .u64 0) := by rw [cell_of_block z2]; rfl
  have d1 : (w2).cell? ⟨(w.heap.size + 1), 1, none⟩ = some (.int .u64 0) := by rw [cell_of_block z2]; rfl
  have f0 : (w2).frozen? ⟨(w.heap.size + 1), 0, none⟩ = false := frozen_of_block z2
  have f1 : (w2).frozen? ⟨(w.heap.size + 1), 1, none⟩ = false := frozen_of_block z2
  have HW := Lib.hid (And.intro (HG.out.2.1.trans (hb2.mono HG.out.2.1.size)) z2)
  clear hb2 z2
  go_wp2_with fail
  have q3 := st2_heap HW.out.2 (.int .u64 k0) (.int .u64 k1)
  have B3 := st2_below HW.out.1 (Nat.le_succ w.heap.size) (.int .u64 k0) (.int .u64 k1)
  generalize ((w2.setCell ⟨(w.heap.size + 1), 0, none⟩ (.int .u64 k0)).setCell ⟨(w.heap.size + 1), 1, none⟩ (.int .u64 k1)) = W3 at *
  have e0 : (W3).cell? ⟨(w.heap.size + 1), 0, none⟩ = some (.int .u64 k0) := by rw [cell_of_block q3]; rfl
  have e1 : (W3).cell? ⟨(w.heap.size + 1), 1, none⟩ = some (.int .u64 k1) := by rw [cell_of_block q3]; rfl
  exact bodyPost_ret (v := .tuple #[.agg #[.int .u64 k0, .int .u64 k1], .int .i64 z]) (by simp [results, Tryz.f341, go_sem, e0, e1]) rfl ⟨rfl, B3⟩
theorem many_insert {w : World} {ps t hh p q : Nat} {S : St} {Y : Nat → Prop} (h : StOn w ps S Y) (was : Bool) {R : Nat → Nat → Nat → St → Prop} (hs : ∀ W Z, StOn W ps S Z → Calls Tryz.prog 144 #[PV ps, .int .i64 t, .int .u64 hh, itV p q] W fun e w' => ∃ (x ik iv : Nat) (S' : St), e = .returned (.tuple #[.int .u64 x, itV ik iv, .bool was, .int .i64 0]) ∧ StOn w' ps S' Z ∧ Keep Z W w' ∧ R x ik iv S') :
    Calls Tryz.prog 343 #[manyV ps t, .int .u64 hh, itV p q] w fun e w' => ∃ (x ik iv : Nat) (S' : St), e = .returned (.tuple #[.int .u64 x, itV ik iv, .bool was, .int .i64 0]) ∧ StOn w' ps S' Y ∧ Keep Y w w' ∧ R x ik iv S' := by
  simp only [itV, manyV] at hs ⊢
  have B1 := (Below.refl w.heap.size w).alloc (Nat.le_refl _) (.cells #[PV ps, .int .i64 t] 127)
  have B2 := B1.alloc B1.size (.cells #[.int .u64 p, .int .u64 q] 105)
  have B3 := B2.alloc B2.size (.cells #[.int .u64 0, .int .u64 0] 105)
  have y3 := heap_alloc_new ((w.alloc (.cells #[PV ps, .int .i64 t] 127)).alloc (.cells #[.int .u64 p, .int .u64 q] 105)) (.cells #[.int .u64 0, .int .u64 0] 105)
  have z2 : ((w.alloc (.cells #[PV ps, .int .i64 t] 127)).alloc (.cells #[.int .u64 p, .int .u64 q] 105)).heap.size = w.heap.size + 2 := by simp
  have z3 : (((w.alloc (.cells #[PV ps, .int .i64 t] 127)).alloc (.cells #[.int .u64 p, .int .u64 q] 105)).alloc (.cells #[.int .u64 0, .int .u64 0] 105)).heap.size = w.heap.size + 3 := by simp
  rw [z2] at y3
  have hY := h.yl
  have hw := hs _ _ (h.wide B3)
  rw [z3] at hw
  have HG := Lib.hid (And.intro hw (And.intro (Keep.of_below B3 hY) (And.intro y3 hY)))
  clear hw h y3 B1 B2 B3 hY hs z2 z3
  go_enter Tryz.func343, Tryz.ntmps343
  go_wp2_with fail
  refine HG.out.1.mono ?_
  rintro e w6 ⟨x, ik, iv, S', rfl, h6, k6, r6⟩
  have y6 := (k6.block (w.heap.size + 2) (Or.inr ⟨by omega, by omega⟩)).trans HG.out.2.2.1
  have e0 : (w6).cell? ⟨(w.heap.size + 2), 0, none⟩ = some (.int .u64 0) := by rw [cell_of_block y6]; rfl
  have e1 : (w6).cell? ⟨(w.heap.size + 2), 1, none⟩ = some (.int .u64 0) := by rw [cell_of_block y6]; rfl
  have f0 : (w6).frozen? ⟨(w.heap.size + 2), 0, none⟩ = false := frozen_of_block y6
  have f1 : (w6).frozen? ⟨(w.heap.size + 2), 1, none⟩ = false := frozen_of_block y6
  have H6 := Lib.hid (And.intro h6 (And.intro (HG.out.2.1.trans (k6.mono fun k hk => Or.inl hk)) (And.intro y6 r6)))
  clear h6 k6 y6 r6
  go_wp2_with fail
  have q7 : ((w6.setCell ⟨(w.heap.size + 2), 0, none⟩ (.int .u64 ik)).setCell ⟨(w.heap.size + 2), 1, none⟩ (.int .u64 iv)).heap[w.heap.size + 2]? = _ := st2_heap H6.out.2.2.1 (.int .u64 ik) (.int .u64 iv)
  have o7 : ∀ k, k ≠ w.heap.size + 2 → ((w6.setCell ⟨(w.heap.size + 2), 0, none⟩ (.int .u64 ik)).setCell ⟨(w.heap.size + 2), 1, none⟩ (.int .u64 iv)).heap[k]? = w6.heap[k]? := fun k hk => st2_other hk _ _
  have s7 : StOn ((w6.setCell ⟨(w.heap.size + 2), 0, none⟩ (.int .u64 ik)).setCell ⟨(w.heap.size + 2), 1, none⟩ (.int .u64 iv)) ps S' Y := (H6.out.1.write (b := w.heap.size + 2) (Or.inr ⟨by omega, by omega⟩) H6.out.2.2.1 ⟨by decide, by decide⟩ (by simp) (by simp) fun k _ hk => o7 k hk).mono fun k hk => Or.inl hk
  have k7 : Keep Y w ((w6.setCell ⟨(w.heap.size + 2), 0, none⟩ (.int .u64 ik)).setCell ⟨(w.heap.size + 2), 1, none⟩ (.int .u64 iv)) := H6.out.2.1.trans ⟨rfl, rfl, rfl, by simp, fun k hk => o7 k (by have := HG.out.2.2.2 k hk; omega)⟩
  clear e0 e1 f0 f1 o7
  generalize ((w6.setCell ⟨(w.heap.size + 2), 0, none⟩ (.int .u64 ik)).setCell ⟨(w.heap.size + 2), 1, none⟩ (.int .u64 iv)) = W7 at *
  have e0 : (W7).cell? ⟨(w.heap.size + 2), 0, none⟩ = some (.int .u64 ik) := by rw [cell_of_block q7]; rfl
  have e1 : (W7).cell? ⟨(w.heap.size + 2), 1, none⟩ = some (.int .u64 iv) := by rw [cell_of_block q7]; rfl
  exact bodyPost_ret (v := .tuple #[.int .u64 x, .agg #[.int .u64 ik, .int .u64 iv], .bool was, .int .i64 0]) (by simp [results, Tryz.f343, go_sem, e0, e1]) rfl ⟨x, ik, iv, S', rfl, s7, k7, H6.out.2.2.2⟩
end Go.Proofs.YtepdkbmnkjfcpaaGreatDoor
