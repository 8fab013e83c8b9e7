/- B-trees: how many nodes are wanted: the walk. Rows of handles: slices.Insert of one: the walk. -/
import Derived.Test.YtepdkbmnkjfcpaaGreatDoorVbb
import Derived.Test.YtepdkbmnkjfcpaaGreatDoorVay
import Derived.Shelf.Spec.SlicesInsertGrow
set_option maxRecDepth 100000
set_option maxHeartbeats 6400000
namespace Go.Proofs.YtepdkbmnkjfcpaaGreatDoor
open Go.RowKit Go.BigFrame Go.Maps Go.WideMaps Lf Tr
theorem fullB_leaf (t : Nat) (key : List UInt8) (y : Bt 1) : Bt.fullB t key y = [decide ((Bn.es y).length = 2 * t - 1)] := by
  have : (Bn.ks y)[belowB key (Bn.es y)]? = none := by rw [Bt.nil_of_zero (Bn.ks y)]; rfl
  unfold Bt.fullB
  rw [this]
theorem fullB_inner (t : Nat) (key : List UInt8) {d : Nat} (y : Bt (d + 1)) {k : Nat} (hk : belowB key (Bn.es y) = k) (h : k < (Bn.ks y).length) : Bt.fullB t key y = decide ((Bn.es y).length = 2 * t - 1) :: Bt.fullB t key (Bn.ks y)[k] := by
  subst hk
  rw [Bt.fullB, List.getElem?_eq_getElem h]
theorem bt_need {w : World} {ps : Nat} {S : St} {o : Nat → Nat} {Y : Nat → Prop} (h : StOn w ps S Y) {t d : Nat} {x : Bt (d + 1)} (hx : Bt.Walk S o t x) (hd : d < 40) (key : List UInt8) :
    Calls Tryz.prog 193 #[trB ps t, .int .u64 (Bt.hd x : Nat), SV key] w fun e w' => e = .returned (.int .i64 (Bt.needB 0 true (Bt.fullB t key x) : Nat)) ∧ Below w.heap.size w w' := by
  have B0 := (Below.refl w.heap.size w).alloc (Nat.le_refl _) (.cells #[PV ps, .int .i64 t] 221)
  have q3 := heap_alloc_new w (.cells #[PV ps, .int .i64 t] 221)
  have hz : w.heap.size + 1 ≤ (w.alloc (.cells #[PV ps, .int .i64 t] 221)).heap.size := by simp
  generalize hW : w.alloc (.cells #[PV ps, .int .i64 t] 221) = W0 at *
  have hi := hx.fit.inv
  have hget := fun W (hw : Below W0.heap.size W0 W) {n : BN} {hh : Nat} (hb : BnAt S t hh n) => bt_get (h.below (B0.trans (hw.mono B0.size))) hi hb
  have hplace := fun W (hw : Below W0.heap.size W0 W) {es : List It} {vk vv vc : Value} {sz : Nat} hk hl hs he => bt_place (h.below (B0.trans (hw.mono B0.size))) hi t (es := es) (vk := vk) (vv := vv) (vc := vc) (sz := sz) hk hl hs he key
  have HG := Lib.hid (And.intro (And.intro B0 (And.intro q3 hz)) (And.intro @hget @hplace))
  have HX := Lib.hid hx
  have hx0 := (Bt.At.hd_ok hx.fit hx.at').1
  have t1 := hx.t1
  have t2 := hx.t2
  obtain ⟨R, hR⟩ : ∃ R, Bt.needB 0 true (Bt.fullB t key x) = R := ⟨_, rfl⟩
  obtain ⟨n0, hn0⟩ : ∃ n0, Bt.hd x = n0 := ⟨_, rfl⟩
  have HR := Lib.hid (And.intro hR hn0)
  rw [hR, hn0]
  rw [hn0] at hx0
  have hx1 : ((n0 : Int) == 0) = false := by simp; omega
  have hx2 : ¬ (n0 : Int) = 0 := by omega
  unfold trB
  clear hget hplace h hx hi B0 q3 hz hR hn0
  have m1 : IntKind.i64.wrap (2 * (t : Int)) = 2 * (t : Int) := IntWalk.i64_in _ (by omega)
  have m2 : IntKind.i64.wrap (2 * (t : Int) - 1) = 2 * (t : Int) - 1 := IntWalk.i64_in _ (by omega)
  go_enter Tryz.func193, Tryz.ntmps193
  go_wp2_with fail
  clear hW hx1 hx2
  go_loopw [1, 7, 8, 9, 10, 11, 12, 15] (fun s1 s7 s8 _ _ _ _ s15 wr => ∃ (d' i f hh : Nat) (a : Bool), s1 = .int .u64 hh ∧ s7 = .int .i64 f ∧ s8 = .bool a ∧ s15 = .int .i64 i ∧ i + d' < 40 ∧ f ≤ i ∧ Hid (Below W0.heap.size W0 wr ∧ ∃ y : Bt (d' + 1), Bt.Walk S o t y ∧ Bt.hd y = hh ∧ Bt.needB f a (Bt.fullB t key y) = R)) (fun _ _ _ _ _ _ _ s15 _ => 40 - (intOf s15).toNat)
  case atStart => exact ⟨d, 0, 0, n0, true, rfl, rfl, rfl, rfl, by omega, by omega, Below.refl _ _, x, HX.out, HR.out.2, HR.out.1⟩
  case round =>
    obtain ⟨d', i, f, hh, a, rfl, rfl, rfl, rfl, hid, hfi, I⟩ := hrel
    obtain ⟨hB, y, hy, hhy, hny⟩ := I.out
    have hlt : (i : Int) < 40 := by omega
    have t3 := (hB.block w.heap.size (by have := HG.out.1.2.2; omega)).trans HG.out.1.2.1
    have x0 : (wr).cell? ⟨w.heap.size, 0, none⟩ = some (PV ps) := by rw [cell_of_block t3]; rfl
    have x1 : (wr).cell? ⟨w.heap.size, 1, none⟩ = some (.int .i64 t) := by rw [cell_of_block t3]; rfl
    have hget := HG.out.2.1 wr hB hy.read
    unfold trB bnV at hget
    rw [hhy] at hget
    have HY := Lib.hid (And.intro hB (And.intro hy hny))
    clear hB hy hhy hny t3
    obtain ⟨n, hn⟩ : ∃ n, Bt.bn y = n := ⟨_, rfl⟩
    rw [hn] at hget
    have HGT := Lib.hid hget
    clear hget
    go_wp2_with fail
    refine HGT.out.mono ?_
    rintro e w1 ⟨vk, vv, vc, rfl, rows, hb⟩
    obtain ⟨Ak, ck, rfl⟩ := rows.k.slice2
    obtain ⟨Av, cv, rfl⟩ := rows.v.slice2
    obtain ⟨Ac, cc, rfl⟩ := rows.c.slice2
    have hkl : n.keys.length = (Bn.es y).length := by rw [← hn]; unfold Bt.bn; rw [List.length_map]
    have hvl : n.vals.length = (Bn.es y).length := by rw [← hn]; unfold Bt.bn; rw [List.length_map]
    have hcl : n.kids.length = (Bn.ks y).length := by rw [← hn]; unfold Bt.bn; rw [List.length_map]
    rw [hkl] at rows
    rw [hvl] at rows
    rw [hcl] at rows
    rw [hkl, hvl, hcl]
    generalize n.size = sz at *
    have hy := HY.out.2.1
    obtain ⟨es1, es2, es3⟩ := hy.es
    have hmany := hy.ok.1
    generalize hlk : (Bn.es y).length = lk at *
    generalize hlc : (Bn.ks y).length = lc at *
    have A1 := (Below.refl w1.heap.size w1).alloc (Nat.le_refl _) (.cells #[.slice Ak lk ck, .slice Av lk cv, .slice Ac lc cc, .int .u64 sz] 267)
    have p1 := heap_alloc_new w1 (.cells #[.slice Ak lk ck, .slice Av lk cv, .slice Ac lc cc, .int .u64 sz] 267)
    have B1 := HY.out.1.trans ((hb.trans (A1.mono hb.size)).mono HY.out.1.size)
    have rows1 := rows.below A1
    have hlt1 : w1.heap.size < (w1.alloc (.cells #[.slice Ak lk ck, .slice Av lk cv, .slice Ac lc cc, .int .u64 sz] 267)).heap.size := by simp
    obtain ⟨W1, hW1⟩ : ∃ W1, w1.alloc (.cells #[.slice Ak lk ck, .slice Av lk cv, .slice Ac lc cc, .int .u64 sz] 267) = W1 := ⟨_, rfl⟩
    rw [hW1] at A1 p1 B1 rows1 hlt1
    have t3 := (B1.block w.heap.size (by have := HG.out.1.2.2; omega)).trans HG.out.1.2.1
    have hrk := rows1.k.hrow
    have hrc := rows1.c.hrow
    rw [← hn] at hrk hrc
    have hrk : HRow W1 (.slice Ak lk ck) ((Bn.es y).map (·.kh)) := hrk
    have hrc : HRow W1 (.slice Ac lc cc) ((Bn.ks y).map Bt.hd) := hrc
    have hpl := HG.out.2.2 W1 B1 (vv := .slice Av lk cv) (vc := .slice Ac lc cc) (sz := sz) hrk (by omega) es1 es2
    unfold trB bnV at hpl
    obtain ⟨k, hk⟩ : ∃ k, belowB key (Bn.es y) = k := ⟨_, rfl⟩
    obtain ⟨he, hhe⟩ : ∃ he, hereB key (Bn.es y) = he := ⟨_, rfl⟩
    rw [hk, hhe] at hpl
    have HPL := Lib.hid hpl
    have H1 := Lib.hid (And.intro B1 (And.intro p1 (And.intro hrc (And.intro t3 hlt1))))
    have HK := Lib.hid (And.intro hlk (And.intro hlc (And.intro hk hmany)))
    have x0 : (W1).cell? ⟨w.heap.size, 0, none⟩ = some (PV ps) := by rw [cell_of_block t3]; rfl
    have x1 : (W1).cell? ⟨w.heap.size, 1, none⟩ = some (.int .i64 t) := by rw [cell_of_block t3]; rfl
    have y0 : (W1).cell? ⟨w1.heap.size, 0, none⟩ = some (.slice Ak lk ck) := by rw [cell_of_block p1]; rfl
    have y1 : (W1).cell? ⟨w1.heap.size, 1, none⟩ = some (.slice Av lk cv) := by rw [cell_of_block p1]; rfl
    have y2 : (W1).cell? ⟨w1.heap.size, 2, none⟩ = some (.slice Ac lc cc) := by rw [cell_of_block p1]; rfl
    have y3 : (W1).cell? ⟨w1.heap.size, 3, none⟩ = some (.int .u64 sz) := by rw [cell_of_block p1]; rfl
    clear rows rows1 hb A1 p1 B1 t3 hrk hrc hpl HGT hkl hvl hcl hn hlt1 hlk hlc hy es1 es2 hk hhe hmany
    by_cases hfull : lk = 2 * t - 1
    · have hful : ¬ ((lk : Int) < 2 * (t : Int) - 1) := by omega
      have hw1 : IntKind.i64.wrap ((f : Int) + 1) = (f : Int) + 1 := IntWalk.i64_in _ (by omega)
      have hw2 : IntKind.i64.wrap ((f : Int) + 1 + 1) = (f : Int) + 1 + 1 := IntWalk.i64_in _ (by omega)
      have hdec : decide ((Bn.es y).length = 2 * t - 1) = true := by rw [HK.out.1]; exact decide_eq_true hfull
      have HD := Lib.hid hdec
      clear hdec hfull
      cases d' with
      | zero =>
        have hc0 : lc = 0 := by rw [← HK.out.2.1, Bt.nil_of_zero (Bn.ks y)]; rfl
        subst hc0
        have hnR := HY.out.2.2
        rw [fullB_leaf, HD.out] at hnR
        have hnR : (f + 1) + (if a = true then 1 else 0) = R := hnR
        have HNR := Lib.hid hnR
        clear hnR
        cases a with
        | true =>
          go_wp2_with fail
          go_ret
          have BW : Below w.heap.size w W1 := HG.out.1.1.trans (H1.out.1.mono HG.out.1.1.size)
          exact ⟨by rw [← HNR.out]; rfl, BW⟩
        | false =>
          go_wp2_with fail
          go_ret
          have BW : Below w.heap.size w W1 := HG.out.1.1.trans (H1.out.1.mono HG.out.1.1.size)
          exact ⟨by rw [← HNR.out]; rfl, BW⟩
      | succ d' =>
        have hyk := HY.out.2.1.klen key
        rw [HK.out.2.2.1] at hyk
        have hee : (Bn.ks y)[k]? = some (Bn.ks y)[k] := List.getElem?_eq_getElem hyk
        obtain ⟨gc, oc, rfl, hcc⟩ := HRow.at (f := Bt.hd) (l := Bn.ks y) H1.out.2.2.1 hee
        have hnR := HY.out.2.2
        rw [fullB_inner t key y HK.out.2.2.1 hyk, HD.out] at hnR
        have hkid := HY.out.2.1.kid (List.getElem_mem hyk)
        have hlcl := HK.out.2.1
        have hkc : (k : Int) < lc := by omega
        have hlc0 : ¬ ((lc : Int) = 0) := by omega
        have hlc1 : ((lc : Int) == 0) = false := by simp; omega
        obtain ⟨kj, hkj⟩ : ∃ kj, (Bn.ks y)[k] = kj := ⟨_, rfl⟩
        obtain ⟨nj, hnj⟩ : ∃ nj, Bt.hd kj = nj := ⟨_, rfl⟩
        rw [hkj] at hcc hnR hkid
        rw [hnj] at hcc
        have hnR : Bt.needB (f + 1) a (Bt.fullB t key kj) = R := hnR
        have HJ := Lib.hid (And.intro hnR (And.intro hkid (And.intro hnj hcc)))
        clear hnR hkid hnj hcc hkj hee hlcl
        go_wp2_with fail
        refine HPL.out.mono ?_
        rintro e w2 ⟨rfl, hb2⟩
        have p2 := (hb2.block w1.heap.size H1.out.2.2.2.2).trans H1.out.2.1
        clear x0 x1 y0 y1 y2 y3
        have y0 : (w2).cell? ⟨w1.heap.size, 0, none⟩ = some (.slice Ak lk ck) := by rw [cell_of_block p2]; rfl
        have y1 : (w2).cell? ⟨w1.heap.size, 1, none⟩ = some (.slice Av lk cv) := by rw [cell_of_block p2]; rfl
        have y2 : (w2).cell? ⟨w1.heap.size, 2, none⟩ = some (.slice (some ⟨gc, oc, none⟩) lc cc) := by rw [cell_of_block p2]; rfl
        have y3 : (w2).cell? ⟨w1.heap.size, 3, none⟩ = some (.int .u64 sz) := by rw [cell_of_block p2]; rfl
        have dc := (hb2.cell (p := ⟨gc, oc + k, none⟩) (hcell_lt HJ.out.2.2.2)).trans HJ.out.2.2.2
        have HB2 := Lib.hid hb2
        clear hb2 p2
        go_wp2_with fail
        go_roundw
        case rel => exact ⟨d', i + 1, (f + 1), nj, a, rfl, by simp, rfl, by simp, by omega, by omega, H1.out.1.trans (HB2.out.mono H1.out.1.size), kj, HJ.out.2.1, HJ.out.2.2.1, HJ.out.1⟩
        case measure => simp [intOf]; omega
    · have hful : (lk : Int) < 2 * (t : Int) - 1 := by have := HK.out.2.2.2; omega
      have hdec : decide ((Bn.es y).length = 2 * t - 1) = false := by rw [HK.out.1]; exact decide_eq_false hfull
      have HD := Lib.hid hdec
      clear hdec hfull
      cases d' with
      | zero =>
        have hc0 : lc = 0 := by rw [← HK.out.2.1, Bt.nil_of_zero (Bn.ks y)]; rfl
        subst hc0
        have hnR := HY.out.2.2
        rw [fullB_leaf, HD.out] at hnR
        have hnR : 0 + (if false = true then 1 else 0) = R := hnR
        have HNR := Lib.hid hnR
        clear hnR
        go_wp2_with fail
        go_ret
        have BW : Below w.heap.size w W1 := HG.out.1.1.trans (H1.out.1.mono HG.out.1.1.size)
        exact ⟨by rw [← HNR.out]; rfl, BW⟩
      | succ d' =>
        have hyk := HY.out.2.1.klen key
        rw [HK.out.2.2.1] at hyk
        have hee : (Bn.ks y)[k]? = some (Bn.ks y)[k] := List.getElem?_eq_getElem hyk
        obtain ⟨gc, oc, rfl, hcc⟩ := HRow.at (f := Bt.hd) (l := Bn.ks y) H1.out.2.2.1 hee
        have hnR := HY.out.2.2
        rw [fullB_inner t key y HK.out.2.2.1 hyk, HD.out] at hnR
        have hkid := HY.out.2.1.kid (List.getElem_mem hyk)
        have hlcl := HK.out.2.1
        have hkc : (k : Int) < lc := by omega
        have hlc0 : ¬ ((lc : Int) = 0) := by omega
        have hlc1 : ((lc : Int) == 0) = false := by simp; omega
        obtain ⟨kj, hkj⟩ : ∃ kj, (Bn.ks y)[k] = kj := ⟨_, rfl⟩
        obtain ⟨nj, hnj⟩ : ∃ nj, Bt.hd kj = nj := ⟨_, rfl⟩
        rw [hkj] at hcc hnR hkid
        rw [hnj] at hcc
        have hnR : Bt.needB 0 false (Bt.fullB t key kj) = R := hnR
        have HJ := Lib.hid (And.intro hnR (And.intro hkid (And.intro hnj hcc)))
        clear hnR hkid hnj hcc hkj hee hlcl
        go_wp2_with fail
        refine HPL.out.mono ?_
        rintro e w2 ⟨rfl, hb2⟩
        have p2 := (hb2.block w1.heap.size H1.out.2.2.2.2).trans H1.out.2.1
        clear x0 x1 y0 y1 y2 y3
        have y0 : (w2).cell? ⟨w1.heap.size, 0, none⟩ = some (.slice Ak lk ck) := by rw [cell_of_block p2]; rfl
        have y1 : (w2).cell? ⟨w1.heap.size, 1, none⟩ = some (.slice Av lk cv) := by rw [cell_of_block p2]; rfl
        have y2 : (w2).cell? ⟨w1.heap.size, 2, none⟩ = some (.slice (some ⟨gc, oc, none⟩) lc cc) := by rw [cell_of_block p2]; rfl
        have y3 : (w2).cell? ⟨w1.heap.size, 3, none⟩ = some (.int .u64 sz) := by rw [cell_of_block p2]; rfl
        have dc := (hb2.cell (p := ⟨gc, oc + k, none⟩) (hcell_lt HJ.out.2.2.2)).trans HJ.out.2.2.2
        have HB2 := Lib.hid hb2
        clear hb2 p2
        go_wp2_with fail
        go_roundw
        case rel => exact ⟨d', i + 1, 0, nj, false, rfl, by simp, rfl, by simp, by omega, by omega, H1.out.1.trans (HB2.out.mono H1.out.1.size), kj, HJ.out.2.1, HJ.out.2.2.1, HJ.out.1⟩
        case measure => simp [intOf]; omega
end Go.Proofs.YtepdkbmnkjfcpaaGreatDoor
namespace Go.Proofs.YtepdkbmnkjfcpaaGreatDoor
open Go.RowKit Go.BigFrame Go.Maps Go.WideMaps Lf
open Go.Shelf Go.Lib
def setL : Array Value → Nat → List Value → Array Value
  | a, _, [] => a
  | a, o, v :: r => setL (a.setIfInBounds o v) (o + 1) r
theorem setL_size : ∀ (vs : List Value) (a : Array Value) (o : Nat), (setL a o vs).size = a.size
  | [], _, _ => rfl
  | v :: r, a, o => by rw [setL, setL_size r]; simp
theorem setL_get : ∀ (vs : List Value) (a : Array Value) (o j : Nat), (setL a o vs)[j]? = if o ≤ j ∧ j < o + vs.length ∧ j < a.size then vs[j - o]? else a[j]?
  | [], a, o, j => by rw [setL, if_neg (by simp; omega)]
  | v :: r, a, o, j => by
    rw [setL, setL_get r, Array.size_setIfInBounds, Array.getElem?_setIfInBounds]
    simp only [List.length_cons]
    by_cases h1 : o + 1 ≤ j ∧ j < o + 1 + r.length ∧ j < a.size
    · rw [if_pos h1, if_pos (by omega), show j - o = (j - (o + 1)) + 1 by omega, List.getElem?_cons_succ]
    · rw [if_neg h1]
      by_cases h2 : o = j
      · subst h2
        rw [if_pos rfl]
        by_cases h3 : o < a.size
        · rw [if_pos h3, if_pos (by omega), Nat.sub_self]; rfl
        · rw [if_neg h3, if_neg (by omega), Array.getElem?_eq_none (by omega)]
      · rw [if_neg h2, if_neg (by omega)]
theorem heap_setCells {ty : TypeId} {fr : Nat × Nat} {b : Nat} : ∀ (vs : List Value) {w : World} {cur : Array Value} (o : Nat), w.heap[b]? = some (.cells cur ty fr) → (w.setCells b o vs).heap[b]? = some (.cells (setL cur o vs) ty fr)
  | [], _, _, _, h => h
  | v :: r, w, cur, o, h => by
    rw [World.setCells, setL]
    exact heap_setCells r (o + 1) (heap_setCell h)
theorem heap_setCells_ne {b k : Nat} (hk : k ≠ b) : ∀ (vs : List Value) (w : World) (o : Nat), (w.setCells b o vs).heap[k]? = w.heap[k]?
  | [], _, _ => rfl
  | v :: r, w, o => by rw [World.setCells, heap_setCells_ne hk r, heap_setCell_ne hk]
theorem grown_setCells {b : Nat} : ∀ (vs : List Value) (w : World) (o : Nat), w.grownBy (w.setCells b o vs) (some b)
  | [], w, _ => ⟨rfl, rfl, rfl, Nat.le_refl _, fun _ _ _ => rfl⟩
  | v :: r, w, o => by
    have h := grown_setCells (b := b) r (w.setCell ⟨b, o, none⟩ v) (o + 1)
    rw [World.setCells]
    refine ⟨h.os, h.tape, h.output, by have := h.size; simpa using this, fun k h1 h2 => ?_⟩
    rw [heap_setCells_ne (fun e => h2 (by rw [e])) r, heap_setCell_ne (fun e => h2 (by rw [e]))]
theorem grown_drew (w : World) (row : Option Nat) : w.grownBy w.drew row := ⟨rfl, rfl, rfl, Nat.le_refl _, fun _ _ _ => rfl⟩
theorem row_ins {cur : Array Value} {cs : List Value} {n i : Nat} {x : Value} (h : cur.toList.take n = cs) (hn : cs.length = n) (hi : i ≤ n) (hc : n + 1 ≤ cur.size) : (setL (setL cur (i + 1) (cs.drop i)) i [x]).toList.take (n + 1) = cs.take i ++ x :: cs.drop i := by
  have hcs : ∀ j, j < n → cs[j]? = cur[j]? := fun j hj => by rw [← h, List.getElem?_take, if_pos hj, Array.getElem?_toList]
  refine List.ext_getElem? fun j => ?_
  rw [List.getElem?_take, Array.getElem?_toList, setL_get, setL_get, setL_size, List.length_drop, hn]
  simp only [List.length_cons, List.length_nil]
  have ht : (cs.take i).length = i := by rw [List.length_take]; omega
  by_cases h1 : j < i
  · rw [List.getElem?_append_left (by omega), List.getElem?_take, if_pos h1, if_pos (by omega), if_neg (by omega), if_neg (by omega), hcs j (by omega)]
  · rw [List.getElem?_append_right (by omega), ht]
    by_cases h2 : j = i
    · subst h2
      rw [if_pos (by omega), if_pos (by omega), Nat.sub_self]; rfl
    · obtain ⟨r, rfl⟩ : ∃ r, j = i + 1 + r := ⟨j - i - 1, by omega⟩
      rw [show i + 1 + r - i = r + 1 by omega, List.getElem?_cons_succ (l := cs.drop i)]
      by_cases h3 : i + 1 + r < n + 1
      · rw [if_pos h3, if_neg (by omega), if_pos (by omega), Nat.add_sub_cancel_left]
      · rw [if_neg h3, List.getElem?_eq_none (by rw [List.length_drop]; omega)]
theorem row_new {cur : Array Value} {cs : List Value} {n i : Nat} {x : Value} (h : ∀ j, j < i → cur[j]? = cs[j]?) (hn : cs.length = n) (hi : i ≤ n) (hc : n + 1 ≤ cur.size) : (setL (setL cur i [x]) (i + 1) (cs.drop i)).toList.take (n + 1) = cs.take i ++ x :: cs.drop i := by
  refine List.ext_getElem? fun j => ?_
  rw [List.getElem?_take, Array.getElem?_toList, setL_get, setL_get, setL_size, List.length_drop, hn]
  simp only [List.length_cons, List.length_nil]
  have ht : (cs.take i).length = i := by rw [List.length_take]; omega
  by_cases h1 : j < i
  · rw [List.getElem?_append_left (by omega), List.getElem?_take, if_pos h1, if_pos (by omega), if_neg (by omega), if_neg (by omega), h j h1]
  · rw [List.getElem?_append_right (by omega), ht]
    by_cases h2 : j = i
    · subst h2
      rw [if_pos (by omega), if_neg (by omega), if_pos (by omega), Nat.sub_self]; rfl
    · obtain ⟨r, rfl⟩ : ∃ r, j = i + 1 + r := ⟨j - i - 1, by omega⟩
      rw [show i + 1 + r - i = r + 1 by omega, List.getElem?_cons_succ (l := cs.drop i)]
      by_cases h3 : i + 1 + r < n + 1
      · rw [if_pos h3, if_pos (by omega), Nat.add_sub_cancel_left]
      · rw [if_neg h3, List.getElem?_eq_none (by rw [List.length_drop]; omega)]
theorem hV_ins (l : List Nat) (i x : Nat) : hV (l.take i ++ x :: l.drop i) = (hV l).take i ++ .int .u64 x :: (hV l).drop i := by
  unfold hV
  rw [List.map_append, List.map_cons, List.map_take, List.map_drop]
theorem hV_one {l : List Nat} : ∀ v ∈ hV l, v.oneCell' = true := fun v hv => by
  obtain ⟨x, _, rfl⟩ := List.mem_map.1 hv
  rfl
theorem ins_length {l : List Nat} {i x : Nat} (h : i ≤ l.length) : (l.take i ++ x :: l.drop i).length = l.length + 1 := by
  rw [List.length_append, List.length_cons, List.length_take, List.length_drop]; omega
theorem handles_insert {w : World} {B : Nat} {v : Value} {l : List Nat} (h : OwnH w B v l) (hl : l.length ≤ 1000) {i : Nat} (hi : i ≤ l.length) {x vb : Nat} (hx : w.heap[vb]? = some (.cells #[.int .u64 x] 43 (0, 0))) (hne : v.ownBlock ≠ some vb) (hB : B ≤ w.heap.size) :
    Calls Tryz.prog 230 #[v, .int .i64 i, .slice (some ⟨vb, 0, none⟩) 1 1] w fun e w' => ∃ v', e = .returned v' ∧ OwnH w' B v' (l.take i ++ x :: l.drop i) ∧ w.grownBy w' v.ownBlock ∧ (v'.ownBlock = v.ownBlock ∨ ∃ g, v'.ownBlock = some g ∧ w.heap.size ≤ g) := by
  obtain ⟨n, hn⟩ : ∃ n, l.length = n := ⟨_, rfl⟩
  have hxc : w.cell? ⟨vb, 0, none⟩ = some (.int .u64 x) := by rw [cell_of_block hx]; rfl
  obtain ⟨ti, hti, hz0, hz1, hz2'⟩ := info_parts infoH
  by_cases hin : i = n
  · subst hin
    have hd : l.drop i = [] := List.drop_eq_nil_of_le (by omega)
    have ht : l.take i = l := List.take_of_length_le (by omega)
    have hrun : ∀ ty, ∃ v' w', (Builtin.append_ #[170, 170] ty #[v, .slice (some ⟨vb, 0, none⟩) 1 1]).run Tryz.prog w = .ok v' w' ∧ OwnH w' B v' (l ++ [x]) ∧ w.grownBy w' v.ownBlock ∧ (v'.ownBlock = v.ownBlock ∨ ∃ g, v'.ownBlock = some g ∧ w.heap.size ≤ g) := fun ty => by
      obtain ⟨v', w', h1, h2, h3, _, h4⟩ := run_append_own_at (P := Tryz.prog) (w := w) B 170 ty 43 ti (.int .u64 0) 1 8 Tryz.underlying170 hti hz0 hz1 hz2' rfl (by decide) v l.length (hV l) h ⟨vb, 0, none⟩ 1 1 [.int .u64 x] rfl (fun j u hj => by
        cases j with
        | zero => simp only [List.getElem?_cons_zero, Option.some.injEq] at hj; subst hj; rw [Addr.add_lit]; exact hxc
        | succ j => simp at hj) (by simp [Value.oneCell']) (by unfold maxLen; omega) (by omega) hB
      refine ⟨v', w', h1, ?_, h3, ?_⟩
      · have e : hV (l ++ [x]) = hV l ++ [.int .u64 x] := by simp [hV]
        unfold OwnH
        rw [e, List.length_append]
        exact h2
      · rcases h4 with h4 | h4
        · exact Or.inl h4
        · exact Or.inr ⟨_, h4, Nat.le_refl _⟩
    obtain ⟨v', w', hr, ho, hg, hv⟩ := hrun 170
    rw [hd, ht]
    generalize hob : v.ownBlock = ob at hg hv ⊢
    have HF := Lib.hid (And.intro ho (And.intro hg hv))
    rcases h.2 with ⟨rfl, e0⟩ | ⟨b, c, cur, rfl, -⟩
    · obtain rfl : i = 0 := by omega
      clear hrun ho hg hv h hx hxc hd ht hti hz0 hz1 hz2' hob hne e0
      go_enter Tryz.func230, Tryz.ntmps230
      go_wp2_with (at_builtin; refine Lib.wpList_append_run _ rfl _ _ _ _ rfl _ _ rfl rfl _ _ hr ?_)
      all_goals
        go_ret
        exact ⟨v', rfl, HF.out⟩
    · rw [hn] at hr ⊢
      clear hrun ho hg hv h hx hxc hd ht hti hz0 hz1 hz2' hob hne
      go_enter Tryz.func230, Tryz.ntmps230
      go_wp2_with (at_builtin; refine Lib.wpList_append_run _ rfl _ _ _ _ rfl _ _ rfl rfl _ _ hr ?_)
      all_goals
        go_ret
        exact ⟨v', rfl, HF.out⟩
  · have hin : i < n := by omega
    rcases h.2 with ⟨rfl, e0⟩ | ⟨b, c, cur, rfl, hb, hblk, hnc, hcm, hcs, htk⟩
    · omega
    rw [hn] at hnc htk ⊢
    rw [Nat.mul_one] at hcs htk
    have hcl : (hV l).length = n := by simp [hV, hn]
    have hvb : vb ≠ b := fun e => hne (by rw [e]; rfl)
    have hcells : ∀ j v, (hV l)[j]? = some v → w.cell? ⟨b, 0 + j, none⟩ = some v := fun j v hj => by
      rw [Nat.zero_add, cell_of_block hblk, ← Array.getElem?_toList]
      have hjn : j < n := by have := (List.getElem?_eq_some_iff.1 hj).1; omega
      rw [← htk, List.getElem?_take, if_pos hjn] at hj
      exact hj
    have hvs : ∀ j v, [Value.int .u64 x][j]? = some v → w.cell? ⟨vb, 0 + j, none⟩ = some v := fun j v hj => by
      cases j with
      | zero => simp only [List.getElem?_cons_zero, Option.some.injEq] at hj; subst hj; exact hxc
      | succ j => simp at hj
    have h1v : ∀ v ∈ [Value.int .u64 x], v.oneCell' = true := fun v hv => by rw [List.mem_singleton.1 hv]; rfl
    have hsz : (Tryz.prog.info? 43).map (·.size) = some 1 := by rw [hti]; simp [hz1]
    have hw1 : IntKind.i64.wrap ((i : Int) + 1) = (i : Int) + 1 := IntWalk.i64_in _ (by omega)
    have hb1 : (0 : Int) ≤ (i : Int) + 1 := by omega
    have htn : ((i : Int) + 1).toNat = i + 1 := by omega
    have hdl : ((hV l).drop i).length = n - i := by rw [List.length_drop, hcl]
    have hz2 : ¬ ((i : Int) = (n : Int)) := by omega
    have hc63 : c ≤ 9223372036854775807 := by unfold maxLen at hcm; omega
    have mixed : Tryz.prog.follows .mixedOrders = true := by kernel_rfl
    by_cases hroom : n + 1 ≤ c
    · have hfz : ∀ j, w.frozen? ⟨b, j, none⟩ = false := fun j => frozen_of_block hblk
      have hsp : ∀ j, j < n + 1 → (w.cell? ⟨b, j, none⟩).isSome = true := fun j hj => by rw [cell_of_block hblk, Array.getElem?_eq_getElem (by omega)]; rfl
      have hov : ∀ lb cb, (callFunc 257 #[.slice (some ⟨vb, 0, none⟩) 1 1, .slice (some ⟨b, i + 1, none⟩) lb cb]).run Tryz.prog w = .ok (.value (.bool false)) w := fun lb cb => by
        rw [run_callFunc_extern (fn := Tryz.f257) (by kernel_rfl) (by kernel_rfl) (by kernel_rfl) (by kernel_rfl) (e := Extern.SlicesOverlaps.overlaps #[170, 170] #[4]) (by kernel_rfl),
          Lib.run_overlaps_apart w 170 4 43 Tryz.underlying170 1 (fun _ => by kernel_rfl) ⟨vb, 0, none⟩ ⟨b, i + 1, none⟩ 1 1 lb cb hvb 43 43 1 c (by simp [World.shape?, hx]) (by simp [World.shape?, hblk, hcs]) (by omega) (frozen_of_block hx) (frozen_of_block hx)]
        rfl
      have hb2 : ¬ (c = i + 1) := by omega
      have hb3 : (i : Int) ≤ (n : Int) + 1 := by omega
      have hb4 : ¬ (c = i) := by omega
      have hin2 : i ≤ n := by omega
      have hcp1 : ∀ ty dc sc, (Builtin.copy_ #[170, 170] ty #[.slice (some ⟨b, i + 1, none⟩) (n - i) dc, .slice (some ⟨b, i, none⟩) (n + 1 - i) sc]).run Tryz.prog w.drew = .ok (goInt ((hV l).drop i).length) (w.drew.setCells b (i + 1) ((hV l).drop i)) := fun ty dc sc =>
        run_copy_cells w.drew _ _ ty 43 b (i + 1) (n - i) dc ⟨b, i, none⟩ (n + 1 - i) sc ((hV l).drop i) Tryz.underlying170 hsz (by rw [hdl]; simp only [Nat.min_def]; split <;> omega)
          (fun j v hj => by rw [Addr.add_lit]; have := hcells (i + j) v (by rwa [List.getElem?_drop] at hj); rwa [Nat.zero_add] at this)
          (fun j hj => hsp _ (by omega)) (fun j hj => hfz _) (fun v hv => hV_one v (List.mem_of_mem_drop hv))
      obtain ⟨W1, hW1⟩ : ∃ W1, W1 = w.drew.setCells b (i + 1) ((hV l).drop i) := ⟨_, rfl⟩
      have hsp1 : ∀ k, k < n + 1 → (W1.cell? ⟨b, k, none⟩).isSome = true := fun k hk => by
        rw [hW1]
        exact isSome_setCells b _ _ _ (fun j hj => by rw [hdl] at hj; exact hsp (i + 1 + j) (by omega)) _ (hsp k hk)
      have hcp2 : ∀ (W : World), (∀ x, W.cell? x = W1.cell? x) → (∀ x, W.frozen? x = W1.frozen? x) → ∀ ty dc, (Builtin.copy_ #[170, 170] ty #[.slice (some ⟨b, i, none⟩) (n + 1 - i) dc, .slice (some ⟨vb, 0, none⟩) 1 1]).run Tryz.prog W = .ok (goInt [Value.int .u64 x].length) (W.setCells b i [.int .u64 x]) := fun W hWc hWf ty dc =>
        run_copy_cells W _ _ ty 43 b i (n + 1 - i) dc ⟨vb, 0, none⟩ 1 1 [.int .u64 x] Tryz.underlying170 hsz (by simp only [Nat.min_def, List.length_cons, List.length_nil]; split <;> omega)
          (fun j v hj => by
            rw [Addr.add_lit, hWc, hW1, World.cell?_setCells_out b _ _ _ _ (fun h _ => absurd h hvb)]
            exact hvs j v hj)
          (fun j hj => by rw [hWc]; exact hsp1 _ (by simp at hj; omega)) (fun j hj => by rw [hWf, hW1, World.frozen?_setCells]; exact hfz _) h1v
      have hfin : OwnH ((w.drew.setCells b (i + 1) ((hV l).drop i)).setCells b i [.int .u64 x]) B (.slice (some ⟨b, 0, none⟩) (n + 1) c) (l.take i ++ x :: l.drop i) := by
        have hb2 := heap_setCells [.int .u64 x] i (heap_setCells ((hV l).drop i) (i + 1) (w := w.drew) hblk)
        refine ⟨by simp [hV], .inr ⟨b, c, _, by rw [ins_length (by omega), hn], hb, hb2, by rw [ins_length (by omega), hn]; exact hroom, hcm, by rw [setL_size, setL_size, hcs, Nat.mul_one], ?_⟩⟩
        rw [ins_length (by omega), hn, Nat.mul_one, hV_ins]
        exact row_ins htk hcl (by omega) (by omega)
      have hgr : w.grownBy ((w.drew.setCells b (i + 1) ((hV l).drop i)).setCells b i [.int .u64 x]) (some b) := (grown_drew w _).trans ((grown_setCells _ _ _).trans (grown_setCells _ _ _))
      have HF := Lib.hid (And.intro hfin hgr)
      rw [← hW1] at hcp1 HF
      clear hfin hgr hcells hsp hfz hsp1 htk hblk hx hxc hvs h1v hne h
      go_enter Tryz.func230, Tryz.ntmps230
      go_wp2_with (simp only [hov])
      go_region_law_o (refine step_copy_runI rfl _ _ 170 170 rfl _ _ (by simp [Act.eval, Act.put]) (by simp [Act.eval, Act.put]) (hcp1 _ _ _) ?_)
      go_wp2_with (at_builtin; refine wpList_copy_runI _ rfl _ _ 170 170 rfl _ _ rfl rfl (hcp2 _ (fun _ => rfl) (fun _ => rfl) _ _) ?_)
      go_ret
      rw [← hW1]
      exact ⟨_, rfl, HF.out.1, HF.out.2, Or.inl rfl⟩
    · have hcn : c = n := by omega
      subst hcn
      have hbw : b < w.heap.size := (Array.getElem?_eq_some_iff.1 hblk).1
      have hvw : vb < w.heap.size := (Array.getElem?_eq_some_iff.1 hx).1
      have hkk : (c : Int) + 1 - (i : Int) = ((c + 1 - i : Nat) : Int) := by omega
      have hik : i + (c + 1 - i) = c + 1 := by omega
      have hold : (Builtin.firstCells ti.size i (.slice (some ⟨b, 0, none⟩) i c)).run Tryz.prog w.drew = .ok ((hV l).take i).toArray w.drew := by
        rw [hz1]
        exact run_firstCells_some w.drew 1 i ⟨b, 0, none⟩ i c ((hV l).take i) (by rw [List.length_take]; omega) (fun j v hj => by
          rw [Addr.add_lit]
          rw [List.getElem?_take] at hj
          split at hj
          · exact hcells j v hj
          · cases hj)
      have hrz : ∀ ty, (Builtin.append_ #[170, 3] ty #[.slice (some ⟨b, 0, none⟩) i c, .int .i64 ((c : Int) + 1 - (i : Int))]).run Tryz.prog w =
          .ok (.slice (some ⟨w.heap.size, 0, none⟩) (c + 1) (grownCap w (c + 1) c 43)) (w.drew.alloc (.cells (((hV l).take i).toArray ++ Builtin.zeroCells (Value.int .u64 0).cells (c + 1 - i) ++ Builtin.zeroCells (Value.int .u64 0).cells (grownCap w (c + 1) c 43 - (c + 1))) 43)) := fun ty => by
        have h := Lib.run_append_grow_zeros w 170 3 ty 43 ti _ .i64 .i64 Tryz.underlying170 Tryz.underlying3 hti hz0 (some ⟨b, 0, none⟩) i c ((hV l).take i) hold (c + 1 - i) (by omega) (by omega) (by omega) (by omega) (by rw [hz2']; omega) (by rw [hz2', hik]; exact growslice_fits (by omega) (by omega))
        rw [hik] at h
        rw [hkk]
        exact h
      obtain ⟨G, hG⟩ : ∃ G, G = grownCap w (c + 1) c 43 := ⟨_, rfl⟩
      obtain ⟨ROW, hROW⟩ : ∃ ROW : Array Value, ROW = ((hV l).take i).toArray ++ Builtin.zeroCells (Value.int .u64 0).cells (c + 1 - i) ++ Builtin.zeroCells (Value.int .u64 0).cells (G - (c + 1)) := ⟨_, rfl⟩
      rw [← hG] at hrz
      rw [← hROW] at hrz
      have hGn : c + 1 ≤ G := by rw [hG]; exact grownCap_ge w _ _ _
      have hGm : G ≤ maxLen := by rw [hG]; exact grownCap_le_maxLen w (c + 1) c 43 (by unfold maxLen; omega)
      have hRs : ROW.size = G := by
        rw [hROW]
        simp only [Array.size_append, List.size_toArray, size_zeroCells, List.length_take, hcl]
        simp [Value.cells]
        omega
      have hRt : ∀ j, j < i → ROW[j]? = (hV l)[j]? := fun j hj => by
        rw [hROW, Array.append_assoc, Array.getElem?_append_left (by simp; omega), List.getElem?_toArray, List.getElem?_take, if_pos hj]
      obtain ⟨W1, hW1⟩ : ∃ W1, W1 = w.drew.alloc (.cells ROW 43) := ⟨_, rfl⟩
      rw [← hW1] at hrz
      have hN : ∀ j, j < c + 1 → (W1.cell? ⟨w.heap.size, j, none⟩).isSome = true := fun j hj => by
        rw [hW1, World.cell?_alloc_at (w := w.drew) ROW _ w.heap.size j rfl, Array.getElem?_eq_getElem (by omega)]; rfl
      have hNf : ∀ j, W1.frozen? ⟨w.heap.size, j, none⟩ = false := fun j => by rw [hW1]; exact World.frozen?_alloc_at (w := w.drew) ROW _ w.heap.size j rfl
      have hOb : ∀ j v, w.cell? ⟨b, j, none⟩ = some v → W1.cell? ⟨b, j, none⟩ = some v := fun j v h => by rw [hW1, World.cell?_alloc_past (w := w.drew) _ b j hbw]; exact h
      have hOv : ∀ j v, w.cell? ⟨vb, j, none⟩ = some v → W1.cell? ⟨vb, j, none⟩ = some v := fun j v h => by rw [hW1, World.cell?_alloc_past (w := w.drew) _ vb j hvw]; exact h
      have hcpA : ∀ (W : World), (∀ x, W.cell? x = W1.cell? x) → (∀ x, W.frozen? x = W1.frozen? x) → ∀ ty dc, (Builtin.copy_ #[170, 170] ty #[.slice (some ⟨w.heap.size, i, none⟩) (c + 1 - i) dc, .slice (some ⟨vb, 0, none⟩) 1 1]).run Tryz.prog W = .ok (goInt [Value.int .u64 x].length) (W.setCells w.heap.size i [.int .u64 x]) := fun W hWc hWf ty dc =>
        run_copy_cells W _ _ ty 43 w.heap.size i (c + 1 - i) dc ⟨vb, 0, none⟩ 1 1 [.int .u64 x] Tryz.underlying170 hsz (by simp only [Nat.min_def, List.length_cons, List.length_nil]; split <;> omega)
          (fun j v hj => by rw [Addr.add_lit, hWc]; exact hOv _ v (hvs j v hj))
          (fun j hj => by rw [hWc]; exact hN _ (by simp at hj; omega)) (fun j hj => by rw [hWf]; exact hNf _) h1v
      have hbN : b ≠ w.heap.size := by omega
      have hcpB : ∀ (W : World), (∀ y, W.cell? y = (W1.setCells w.heap.size i [.int .u64 x]).cell? y) → (∀ y, W.frozen? y = (W1.setCells w.heap.size i [.int .u64 x]).frozen? y) → ∀ ty dc sc, (Builtin.copy_ #[170, 170] ty #[.slice (some ⟨w.heap.size, i + 1, none⟩) (c - i) dc, .slice (some ⟨b, i, none⟩) (c - i) sc]).run Tryz.prog W = .ok (goInt ((hV l).drop i).length) (W.setCells w.heap.size (i + 1) ((hV l).drop i)) := fun W hWc hWf ty dc sc =>
        run_copy_cells W _ _ ty 43 w.heap.size (i + 1) (c - i) dc ⟨b, i, none⟩ (c - i) sc ((hV l).drop i) Tryz.underlying170 hsz (by rw [hdl]; simp only [Nat.min_def]; split <;> omega)
          (fun j v hj => by
            rw [Addr.add_lit, hWc, World.cell?_setCells_out _ _ _ _ _ (fun h _ => absurd h hbN)]
            have := hcells (i + j) v (by rwa [List.getElem?_drop] at hj)
            rw [Nat.zero_add] at this
            exact hOb _ v this)
          (fun j hj => by rw [hWc]; exact isSome_setCells _ _ _ _ (fun t ht => hN _ (by simp at ht; omega)) _ (hN _ (by omega)))
          (fun j hj => by rw [hWf, World.frozen?_setCells]; exact hNf _) (fun v hv => hV_one v (List.mem_of_mem_drop hv))
      have hfin : OwnH (((w.alloc (.cells ROW 43)).drew.setCells w.heap.size i [.int .u64 x]).drew.setCells w.heap.size (i + 1) ((hV l).drop i)) B (.slice (some ⟨w.heap.size, 0, none⟩) (c + 1) G) (l.take i ++ x :: l.drop i) := by
        have hb2 := heap_setCells ((hV l).drop i) (i + 1) (w := ((w.alloc (.cells ROW 43)).drew.setCells w.heap.size i [.int .u64 x]).drew) (heap_setCells [.int .u64 x] i (w := (w.alloc (.cells ROW 43)).drew) (heap_alloc_new w (.cells ROW 43)))
        refine ⟨by simp [hV], .inr ⟨w.heap.size, G, _, by rw [ins_length (by omega), hn], hB, hb2, by rw [ins_length (by omega), hn]; exact hGn, hGm, by rw [setL_size, setL_size, hRs, Nat.mul_one], ?_⟩⟩
        rw [ins_length (by omega), hn, Nat.mul_one, hV_ins]
        exact row_new hRt hcl (by omega) (by omega)
      have hgr : w.grownBy (((w.alloc (.cells ROW 43)).drew.setCells w.heap.size i [.int .u64 x]).drew.setCells w.heap.size (i + 1) ((hV l).drop i)) (some b) := by
        have g1 := grown_setCells (b := w.heap.size) [.int .u64 x] (w.alloc (.cells ROW 43)).drew i
        have g2 := grown_setCells (b := w.heap.size) ((hV l).drop i) ((w.alloc (.cells ROW 43)).drew.setCells w.heap.size i [.int .u64 x]).drew (i + 1)
        refine ⟨g2.os.trans g1.os, g2.tape.trans g1.tape, g2.output.trans g1.output, Nat.le_trans (by show w.heap.size ≤ (w.alloc _).heap.size; simp) (Nat.le_trans g1.size g2.size), fun k hk _ => ?_⟩
        have e1 := heap_setCells_ne (b := w.heap.size) (k := k) (by omega) ((hV l).drop i) ((w.alloc (.cells ROW 43)).drew.setCells w.heap.size i [.int .u64 x]).drew (i + 1)
        have e2 := heap_setCells_ne (b := w.heap.size) (k := k) (by omega) [.int .u64 x] (w.alloc (.cells ROW 43)).drew i
        exact e1.trans (e2.trans (heap_alloc_old _ _ hk))
      have HF := Lib.hid (And.intro hfin hgr)
      subst hW1
      have hE1 : ∀ x, ((w.alloc (.cells ROW 43)).drew).cell? x = (w.drew.alloc (.cells ROW 43)).cell? x := fun x => rfl
      have hE2 : ∀ x, ((w.alloc (.cells ROW 43)).drew).frozen? x = (w.drew.alloc (.cells ROW 43)).frozen? x := fun x => rfl
      have hF1 : ∀ y, (((w.alloc (.cells ROW 43)).drew.setCells w.heap.size i [.int .u64 x]).drew).cell? y = ((w.drew.alloc (.cells ROW 43)).setCells w.heap.size i [.int .u64 x]).cell? y := fun x => rfl
      have hF2 : ∀ y, (((w.alloc (.cells ROW 43)).drew.setCells w.heap.size i [.int .u64 x]).drew).frozen? y = ((w.drew.alloc (.cells ROW 43)).setCells w.heap.size i [.int .u64 x]).frozen? y := fun x => rfl
      have hGi : ¬ (G = i) := by omega
      have hGim : ¬ (G = i + 1) := by omega
      have hci : ¬ (c = i) := by omega
      have hin2 : i ≤ c := by omega
      have hb3 : (i : Int) ≤ (c : Int) := by omega
      have hG63 : G ≤ 9223372036854775807 := by unfold maxLen at hGm; omega
      have hroom2 : (c : Int) < (c : Int) + 1 := by omega
      clear hkk hik hold hROW hG hRs hRt hN hNf hOb hOv hfin hgr hcells hx hxc hvs h1v hne h hblk htk hroom
      go_enter Tryz.func230, Tryz.ntmps230
      go_wp2_with (first
        | (at_builtin; refine Lib.wpList_append_run _ rfl _ _ _ _ rfl _ _ rfl rfl _ _ (hrz _) ?_)
        | (at_builtin; refine wpList_copy_runI _ rfl _ _ 170 170 rfl _ _ rfl rfl (hcpA _ hE1 hE2 _ _) ?_)
        | (at_builtin; refine wpList_copy_runI _ rfl _ _ 170 170 rfl _ _ rfl rfl (hcpB _ (fun _ => rfl) (fun _ => rfl) _ _ _) ?_))
      go_region_law_o (refine step_copy_runI rfl _ _ 170 170 rfl (.slice (some ⟨w.heap.size, i + 1, none⟩) (c - i) (G - (i + 1))) (.slice (some ⟨b, i, none⟩) (c - i) (c - i)) (by simp [Act.eval, Act.put]) (by simp [Act.eval, Act.put]) (hcpB _ hF1 hF2 3 (G - (i + 1)) (c - i)) ?_)
      go_wp2
      go_ret
      exact ⟨_, rfl, HF.out.1, HF.out.2, Or.inr ⟨_, rfl, Nat.le_refl _⟩⟩
end Go.Proofs.YtepdkbmnkjfcpaaGreatDoor
