/- B-trees: Insert of a key that is there: the walk. B-trees of any height, as rows of pairs: what a put makes of one: plain. Trees of the face of B-trees: Len, Rank, Get, At, Put: what they answer of a row of pairs. A new tree of the face of B-trees; the law's awake: the walks. -/
import Derived.Test.YtepdkbmnkjfcpaaGreatDoorVbk
import Derived.Test.YtepdkbmnkjfcpaaGreatDoorVbg
import Derived.Test.YtepdkbmnkjfcpaaGreatDoorVbj
import Derived.Test.YtepdkbmnkjfcpaaGreatDoorVbh
import Derived.Test.YtepdkbmnkjfcpaaGreatDoorVal
import Derived.OwnWalk
import Derived.Test.YtepdkbmnkjfcpaaGreatDoorVaq
import Derived.Test.YtepdkbmnkjfcpaaGreatDoorVam
import Derived.Test.YtepdkbmnkjfcpaaGreatDoorVar
import Derived.Test.YtepdkbmnkjfcpaaGreatDoorVbi
set_option maxRecDepth 100000
set_option maxHeartbeats 3200000
namespace Go.Proofs.YtepdkbmnkjfcpaaGreatDoor
open Go.RowKit Go.BigFrame Go.Maps Go.WideMaps Lf Tr
open Go.Shelf
theorem bt_insert_was {w : World} {ps : Nat} {S : St} {o : Nat → Nat} {Y : Nat → Prop} (h : StOn w ps S Y) {t d : Nat} {x : Bt (d + 1)} (hx : Bt.Tree S o t x) {e e0 : It} (hn : Blobs S e) {g : Nat} {n0 : BN} {k0 : Nat} (hnb : Bt.nodeB e.k x = some (g, n0, k0)) (hr : Bt.RepAt S o t x e e0 g n0 k0) :
    Calls Tryz.prog 144 #[PV ps, .int .i64 t, .int .u64 (Bt.hd x : Nat), itV e.kh e.vh] w fun en w' => en = .returned (.tuple #[.int .u64 (Bt.hd x : Nat), itV e0.kh e0.vh, .bool true, .int .i64 0]) ∧ StOn w' ps (putWords S g 0 (bnWords t (Bt.setN n0 k0 e))) Y ∧ Keep Y w w' := by
  have B0 := ((Below.refl w.heap.size w).alloc (Nat.le_refl _) (.cells #[.int .u64 e.kh, .int .u64 e.vh] 105)).alloc (by simp) (.cells #[.int .u64 0, .int .u64 0] 105)
  have z1 : (w.alloc (.cells #[.int .u64 e.kh, .int .u64 e.vh] 105)).heap.size = w.heap.size + 1 := by simp
  have q1 := heap_alloc_new w (.cells #[.int .u64 e.kh, .int .u64 e.vh] 105)
  have q2 := heap_alloc_new (w.alloc (.cells #[.int .u64 e.kh, .int .u64 e.vh] 105)) (.cells #[.int .u64 0, .int .u64 0] 105)
  have q1 := (((Below.refl (w.alloc (.cells #[.int .u64 e.kh, .int .u64 e.vh] 105)).heap.size (w.alloc (.cells #[.int .u64 e.kh, .int .u64 e.vh] 105))).alloc (Nat.le_refl _) (.cells #[.int .u64 0, .int .u64 0] 105)).block w.heap.size (by simp)).trans q1
  rw [z1] at q2
  have hz : ((w.alloc (.cells #[.int .u64 e.kh, .int .u64 e.vh] 105)).alloc (.cells #[.int .u64 0, .int .u64 0] 105)).heap.size = w.heap.size + 2 := by simp
  generalize hW : (w.alloc (.cells #[.int .u64 e.kh, .int .u64 e.vh] 105)).alloc (.cells #[.int .u64 0, .int .u64 0] 105) = W0 at *
  have A1 := (Below.refl W0.heap.size W0).alloc (Nat.le_refl _) (.cells #[PV ps, .int .i64 t] 221)
  have q3 := heap_alloc_new W0 (.cells #[PV ps, .int .i64 t] 221)
  have hz1 : (W0.alloc (.cells #[PV ps, .int .i64 t] 221)).heap.size = w.heap.size + 3 := by simp [hz]
  have hw := hx.walk
  have hi := hx.fit.inv
  have has := bt_asked (h.below B0) hi hx.t1 hx.t2
  obtain ⟨W1, hW1⟩ : ∃ W1, W0.alloc (.cells #[PV ps, .int .i64 t] 221) = W1 := ⟨_, rfl⟩
  rw [hW1] at A1 q3 hz1
  have B1 := B0.trans (A1.mono (by omega))
  rw [hz] at q3
  have hkb := getBlob_look hx.fit hn.lk hn.k
  have hbg := blob_get (h.below B1) hi e.kh (Bt.blobs_lt hx.fit hn).1 (by rw [hkb]; simp)
  rw [hkb] at hbg
  have q1 := (A1.block _ (by omega)).trans q1
  have q2 := (A1.block _ (by omega)).trans q2
  have x0 : (W1).cell? ⟨w.heap.size, 0, none⟩ = some (.int .u64 e.kh) := by rw [cell_of_block q1]; rfl
  have x1 : (W1).cell? ⟨w.heap.size, 1, none⟩ = some (.int .u64 e.vh) := by rw [cell_of_block q1]; rfl
  have H0 := Lib.hid (And.intro h (And.intro hx (And.intro hn (And.intro hr (And.intro hw (And.intro hi hz1))))))
  have HNB := Lib.hid (And.intro hnb h.yl)
  clear hnb
  have H1 := Lib.hid (And.intro B1 (And.intro q1 (And.intro q2 q3)))
  have HAS := Lib.hid has
  have HBG := Lib.hid hbg
  have hh0 : Bt.hd x ≠ 0 := (Bt.At.hd_ok hx.fit hx.at').1
  have hh1 : ((Bt.hd x : Nat) : Int) ≠ 0 := by omega
  clear z1 q1 q2 q3 B0 B1 A1 hw hi has hkb hbg h hx hn hr
  unfold itV
  go_enter Tryz.func144, Tryz.ntmps144
  go_wp2_with fail
  refine HAS.out.mono ?_
  rintro en w1 ⟨rfl, rfl⟩
  clear hW
  go_wp2_with fail
  refine HBG.out.mono ?_
  rintro en w2 ⟨rfl, hb2⟩
  clear x0 x1
  have p1 := (hb2.block _ (by have := H0.out.2.2.2.2.2.2; omega)).trans H1.out.2.1
  have p2 := (hb2.block _ (by have := H0.out.2.2.2.2.2.2; omega)).trans H1.out.2.2.1
  have p3 := (hb2.block _ (by have := H0.out.2.2.2.2.2.2; omega)).trans H1.out.2.2.2
  have b2 := H1.out.1.trans (hb2.mono H1.out.1.size)
  have x0 : (w2).cell? ⟨w.heap.size + 2, 0, none⟩ = some (PV ps) := by rw [cell_of_block p3]; rfl
  have x1 : (w2).cell? ⟨w.heap.size + 2, 1, none⟩ = some (.int .i64 t) := by rw [cell_of_block p3]; rfl
  have hget := bt_get (H0.out.1.below b2) H0.out.2.2.2.2.2.1 H0.out.2.2.2.2.1.read
  have hs2 : w.heap.size + 3 ≤ w2.heap.size := by have := hb2.size; have := H0.out.2.2.2.2.2.2; omega
  unfold trB bnV at hget
  have HGT := Lib.hid hget
  have H2 := Lib.hid (And.intro b2 (And.intro p1 (And.intro p2 p3)))
  clear hb2 p1 p2 p3 b2 hget HBG HAS H1 hW1
  go_wp2_with fail
  refine HGT.out.mono ?_
  rintro en w3 ⟨vk, vv, vc, rfl, rows, hb3⟩
  obtain ⟨Ak, mk, ck, rfl⟩ := rows.k.slice
  obtain ⟨Av, mv, cv, rfl⟩ := rows.v.slice
  obtain ⟨Ac, mc, cc, rfl⟩ := rows.c.slice
  obtain ⟨sz, hsz⟩ : ∃ sz, (Bt.bn x).size = sz := ⟨_, rfl⟩
  rw [hsz]
  clear hsz
  have A3 := (Below.refl w3.heap.size w3).alloc (Nat.le_refl _) (.cells #[.slice Ak mk ck, .slice Av mv cv, .slice Ac mc cc, .int .u64 sz] 267)
  obtain ⟨W3, hW3⟩ : ∃ W3, w3.alloc (.cells #[.slice Ak mk ck, .slice Av mv cv, .slice Ac mc cc, .int .u64 sz] 267) = W3 := ⟨_, rfl⟩
  rw [hW3] at A3
  have c3 := hb3.trans (A3.mono hb3.size)
  have p1 := (c3.block _ (by omega)).trans H2.out.2.1
  have p2 := (c3.block _ (by omega)).trans H2.out.2.2.1
  have p3 := (c3.block _ (by omega)).trans H2.out.2.2.2
  have B3 := H2.out.1.trans (c3.mono H2.out.1.size)
  have hs3 : w.heap.size + 3 ≤ W3.heap.size := by have := c3.size; omega
  have hdl := H0.out.2.1.low
  have hno := H0.out.2.2.2.1.find
  have hdn := fun W (hw : Below W3.heap.size W3 W) => bt_down (H0.out.1.below (B3.trans (hw.mono B3.size))) H0.out.2.2.2.2.1 (by omega) e.k
  rw [hno] at hdn
  have hfd := btree_find (R := some e0) (hdn W3 (Below.refl _ _)) fun W hW => hdn W (by rw [hW]; exact (Below.refl _ _).alloc (Nat.le_refl _) _)
  unfold itO itV at hfd
  dsimp only [Option.isSome] at hfd
  have HFD := Lib.hid hfd
  have H3 := Lib.hid (And.intro B3 (And.intro p1 (And.intro p2 p3)))
  clear A3 c3 p1 p2 p3 B3 hno hdn hfd x0 x1 hb3 H2 HGT rows
  go_wp2_with fail
  refine HFD.out.mono ?_
  rintro en w4 ⟨rfl, hb4⟩
  clear hW3
  have A4 := (Below.refl w4.heap.size w4).alloc (Nat.le_refl _) (.cells #[.int .u64 e0.kh, .int .u64 e0.vh] 105)
  obtain ⟨W4, hW4⟩ : ∃ W4, w4.alloc (.cells #[.int .u64 e0.kh, .int .u64 e0.vh] 105) = W4 := ⟨_, rfl⟩
  rw [hW4] at A4
  have c4 := hb4.trans (A4.mono hb4.size)
  have p1 := (c4.block _ (by omega)).trans H3.out.2.1
  have p2 := (c4.block _ (by omega)).trans H3.out.2.2.1
  have p3 := (c4.block _ (by omega)).trans H3.out.2.2.2
  have B4 := H3.out.1.trans (c4.mono H3.out.1.size)
  have hs4 : w.heap.size + 3 ≤ W4.heap.size := by have := c4.size; omega
  have st4 := H0.out.1.wide B4
  have hsw := bt_swap st4 H0.out.2.2.2.2.1 (by omega) HNB.out.1 H0.out.2.2.2.1
  unfold trB itV at hsw
  have HSW := Lib.hid hsw
  have x0 : (W4).cell? ⟨w.heap.size + 2, 0, none⟩ = some (PV ps) := by rw [cell_of_block p3]; rfl
  have x1 : (W4).cell? ⟨w.heap.size + 2, 1, none⟩ = some (.int .i64 t) := by rw [cell_of_block p3]; rfl
  have y0 : (W4).cell? ⟨w.heap.size, 0, none⟩ = some (.int .u64 e.kh) := by rw [cell_of_block p1]; rfl
  have y1 : (W4).cell? ⟨w.heap.size, 1, none⟩ = some (.int .u64 e.vh) := by rw [cell_of_block p1]; rfl
  have H4 := Lib.hid (And.intro B4 p2)
  clear A4 c4 p1 p2 p3 B4 st4 hb4 H3 HFD hsw
  go_wp2_with fail
  refine HSW.out.mono ?_
  rintro en w5 ⟨rfl, st5, kp5⟩
  clear hW4 x0 x1 y0 y1
  have q5 := (kp5.block (w.heap.size + 1) (Or.inr ⟨by omega, by omega⟩)).trans H4.out.2
  have x0 : (w5).cell? ⟨w.heap.size + 1, 0, none⟩ = some (.int .u64 0) := by rw [cell_of_block q5]; rfl
  have x1 : (w5).cell? ⟨w.heap.size + 1, 1, none⟩ = some (.int .u64 0) := by rw [cell_of_block q5]; rfl
  have f0 : (w5).frozen? ⟨w.heap.size + 1, 0, none⟩ = false := frozen_of_block q5
  have f1 : (w5).frozen? ⟨w.heap.size + 1, 1, none⟩ = false := frozen_of_block q5
  have H5 := Lib.hid (And.intro st5 (And.intro kp5 q5))
  clear st5 kp5 q5
  go_wp2_with fail
  have qF := st2_heap H5.out.2.2 (.int .u64 e0.kh) (.int .u64 e0.vh)
  have oF : ∀ k, k ≠ w.heap.size + 1 → ((w5.setCell ⟨w.heap.size + 1, 0, none⟩ (.int .u64 e0.kh)).setCell ⟨w.heap.size + 1, 1, none⟩ (.int .u64 e0.vh)).heap[k]? = w5.heap[k]? := fun k hk => st2_other hk _ _
  have sF : StOn ((w5.setCell ⟨w.heap.size + 1, 0, none⟩ (.int .u64 e0.kh)).setCell ⟨w.heap.size + 1, 1, none⟩ (.int .u64 e0.vh)) ps (putWords S g 0 (bnWords t (Bt.setN n0 k0 e))) Y := (H5.out.1.write (b := w.heap.size + 1) (Or.inr ⟨by omega, by omega⟩) H5.out.2.2 ⟨by decide, by decide⟩ (by simp) (by simp) fun k _ hk => oF k hk).mono fun k hk => Or.inl hk
  have kF : Keep Y w ((w5.setCell ⟨w.heap.size + 1, 0, none⟩ (.int .u64 e0.kh)).setCell ⟨w.heap.size + 1, 1, none⟩ (.int .u64 e0.vh)) := ((Keep.of_below H4.out.1 HNB.out.2).trans (H5.out.2.1.mono fun k hk => Or.inl hk)).trans ⟨rfl, rfl, rfl, by simp, fun k hk => oF k (by have := HNB.out.2 k hk; omega)⟩
  clear x0 x1 f0 f1 oF
  generalize ((w5.setCell ⟨w.heap.size + 1, 0, none⟩ (.int .u64 e0.kh)).setCell ⟨w.heap.size + 1, 1, none⟩ (.int .u64 e0.vh)) = WF at *
  have u0 : (WF).cell? ⟨w.heap.size + 1, 0, none⟩ = some (.int .u64 e0.kh) := by rw [cell_of_block qF]; rfl
  have u1 : (WF).cell? ⟨w.heap.size + 1, 1, none⟩ = some (.int .u64 e0.vh) := by rw [cell_of_block qF]; rfl
  exact bodyPost_ret (v := .tuple #[.int .u64 (Bt.hd x : Nat), .agg #[.int .u64 e0.kh, .int .u64 e0.vh], .bool true, .int .i64 0]) (by simp [results, Tryz.f144, go_sem, u0, u1]) rfl ⟨rfl, sF, kF⟩
end Go.Proofs.YtepdkbmnkjfcpaaGreatDoor
namespace Go.Proofs.YtepdkbmnkjfcpaaGreatDoor
open Lf Tr
namespace Bt
theorem two_fit {S : St} {o : Nat → Nat} (hf : Fit S o) {a b : List UInt8} (ha : a.length ≤ 1000) (hb : b.length ≤ 1000) (hr : Space S 6 2) :
    ∃ ka vb S2 o2, itemsM S a b = some ((ka, vb), S2) ∧ ItemsOk S a b ∧ Fit S2 o2 ∧ reco S ka = none ∧ reco S vb = none ∧ ka ≠ vb ∧ reco S2 ka = some (wordsOf a) ∧ reco S2 vb = some (wordsOf b) ∧ (∀ h', h' ≠ ka → h' ≠ vb → reco S2 h' = reco S h') ∧ Grew S S2 6 2 := by
  obtain ⟨ka, S1, o1, e1, f1, n1, l1, q1, g1, k1⟩ := putBlob_fit hf ha (hr.mono (by omega) (by omega))
  obtain ⟨vb, S2, o2, e2, f2, n2, l2, q2, g2, k2⟩ := putBlob_fit f1 hb (Space.grew (hr.mono (p' := 3 + 3) (q' := 1 + 1) (by omega) (by omega)) g1)
  have hne : ka ≠ vb := by rintro rfl; rw [l1] at n2; cases n2
  have hit : itemsM S a b = some ((ka, vb), S2) := by
    unfold itemsM
    rw [e1]
    simp only
    rw [e2]
    simp
  exact ⟨ka, vb, S2, o2, hit, ⟨ha, hb, k1, by rw [e1]; exact k2⟩, f2, n1, (q1 _ hne.symm).symm.trans n2, hne, (q2 _ hne).trans l1, l2, fun h' w1 w2 => (q2 h' w2).trans (q1 h' w1), (g1.trans g2).mono (by omega) (by omega)⟩
def getL (L : List (List UInt8 × List UInt8)) (a : List UInt8) : Option (List UInt8) := (L.find? fun p => p.1 == a).map (·.2)
theorem getL_pairs (l : List It) (a : List UInt8) : getL (pairs l) a = (findB a l).map (·.v) := by
  unfold getL pairs findB
  rw [List.find?_map, Option.map_map]
  rfl
theorem swap_split {l : List It} (hs : l.Pairwise klt) {e e0 : It} (hf : findB e.k l = some e0) :
    ∃ A B, l = A ++ e0 :: B ∧ l.map (rep e) = A ++ e :: B ∧ e0.k = e.k ∧ (∀ x ∈ A, cmpB x.k e.k < 0) ∧ ∀ x ∈ B, cmpB e.k x.k < 0 := by
  unfold findB at hf
  have hm := List.mem_of_find?_eq_some hf
  have hk : e0.k = e.k := by simpa using List.find?_some hf
  obtain ⟨A, B, rfl⟩ := List.append_of_mem hm
  obtain ⟨p1, p2, p3⟩ := List.pairwise_append.1 hs
  obtain ⟨p4, p5⟩ := List.pairwise_cons.1 p2
  have hA : ∀ x ∈ A, cmpB x.k e.k < 0 := fun x hx => by
    have := p3 x hx e0 (List.mem_cons_self ..)
    unfold klt at this
    rwa [hk] at this
  have hB : ∀ x ∈ B, cmpB e.k x.k < 0 := fun x hx => by
    have := p4 x hx
    unfold klt at this
    rwa [hk] at this
  have e1 : A.map (rep e) = A := (List.map_congr_left fun x hx => (rep_ne (ne_of_lt (hA x hx)) : rep e x = id x)).trans (List.map_id _)
  have e2 : B.map (rep e) = B := (List.map_congr_left fun x hx => (rep_ne (fun q => by have := hB x hx; rw [q, cmpB_refl] at this; omega) : rep e x = id x)).trans (List.map_id _)
  refine ⟨A, B, rfl, ?_, hk, hA, hB⟩
  rw [List.map_append, List.map_cons, e1, e2]
  congr 2
  exact if_pos hk
theorem pairs_ins {e : It} {l : List It} (hs : l.Pairwise klt) (hn : ∀ d ∈ l, d.k ≠ e.k) : pairs (insB e l) = putL (pairs l) e.k e.v := by
  obtain ⟨b1, b2, b3⟩ := below_take (key := e.k) hs
  have hgt : ∀ d ∈ l.drop (belowB e.k l), cmpB e.k d.k < 0 := fun d hd => by
    have h1 := b2 d hd
    have h2 := hn d (List.mem_of_mem_drop hd)
    rw [cmpB_swap]
    rcases Int.lt_trichotomy (cmpB d.k e.k) 0 with g | g | g
    · exact absurd g h1
    · exact absurd (cmpB_eq0 g) h2
    · omega
  have h := putL_pairs (a := e.k) (b := e.v) (d := e) (tl := l.take (belowB e.k l)) (tr := l.drop (belowB e.k l)) (mid := []) ⟨rfl, rfl⟩ (fun x hx => by cases hx) b1 hgt
  rw [List.append_nil, List.take_append_drop] at h
  exact h
theorem pairs_rep {e e0 : It} {l : List It} (hs : l.Pairwise klt) (hf : findB e.k l = some e0) : pairs (l.map (rep e)) = putL (pairs l) e.k e.v := by
  obtain ⟨A, B, h1, h2, h3, h4, h5⟩ := swap_split hs hf
  rw [h2, h1]
  have h := putL_pairs (a := e.k) (b := e.v) (d := e) (tl := A) (tr := B) (mid := [e0]) ⟨rfl, rfl⟩ (fun x hx => by rw [List.mem_singleton.1 hx]; exact h3) h4 h5
  rw [h]
  congr 2
  simp
theorem Tree.swap {S : St} {o : Nat → Nat} {t d : Nat} {x : Bt (d + 1)} (h : Tree S o t x) {e e0 : It} (hb : Blobs S e) (ne : e.kh ≠ e.vh) (off : e.kh ∉ recs x ∧ e.vh ∉ recs x) {g : Nat} {n : BN} {k : Nat} (r : RepAt S o t x e e0 g n k) {S1 : St} (hS1 : S1 = putWords S g 0 (bnWords t (setN n k e))) :
    Fit S1 o ∧ getBlob S1 e0.vh = (e0.v, 0) ∧ e0.kh < 18446744073709551616 ∧ e0.vh < 18446744073709551616 ∧ Inv (S1.drop e0.kh).2 ∧ ∃ S3, S3 = ((S1.drop e0.kh).2.drop e0.vh).2 ∧ Tree S3 o t (mapB (rep e) x) ∧ pairs (its (mapB (rep e) x)) = putL (pairs (its x)) e.k e.v ∧ Grew S S3 0 0 ∧ (∀ y, y ∉ recs x → reco S3 y = reco S y) ∧ ∀ y ∈ recs (mapB (rep e) x), y ∈ recs x ∨ y = e.kh ∨ y = e.vh := by
  obtain ⟨A, B, h1, h2, h3, h4, h5⟩ := swap_split h.sorted r.find
  have hm0 : e0 ∈ its x := by rw [h1]; simp
  have hb0 := h.blobs e0 hm0
  have k0 : e0.kh ∈ blobH (its x) := mem_blobH.2 ⟨e0, hm0, Or.inl rfl⟩
  have v0 : e0.vh ∈ blobH (its x) := mem_blobH.2 ⟨e0, hm0, Or.inr rfl⟩
  have hgk : ∀ y ∈ blobH (its x), y ≠ g := fun y hy q => h.apart g r.mem (q ▸ hy)
  have hek : e.kh ≠ g ∧ e.vh ≠ g := ⟨fun q => off.1 (q ▸ List.mem_append_left _ r.mem), fun q => off.2 (q ▸ List.mem_append_left _ r.mem)⟩
  have htx := h.texts
  rw [h1, blobH_append] at htx
  have ec : ∀ (z : It) (l : List It), blobH (z :: l) = z.kh :: z.vh :: blobH l := fun _ _ => rfl
  rw [ec] at htx
  obtain ⟨t1, t2, t3⟩ := List.nodup_append.1 htx
  obtain ⟨t4, t5⟩ := List.nodup_cons.1 t2
  obtain ⟨t6, t7⟩ := List.nodup_cons.1 t5
  have oe : ∀ y, y = e.kh ∨ y = e.vh → y ∉ blobH (its x) ∧ y ∉ Bt.nodes x := fun y hy => by
    rcases hy with rfl | rfl
    · exact ⟨fun q => off.1 (List.mem_append_right _ q), fun q => off.1 (List.mem_append_left _ q)⟩
    · exact ⟨fun q => off.2 (List.mem_append_right _ q), fun q => off.2 (List.mem_append_left _ q)⟩
  have hbx : ∀ y, y ∈ blobH A ∨ y ∈ blobH B → y ∈ blobH (its x) := fun y hy => by
    rw [h1, blobH_append, ec]
    rcases hy with hy | hy
    · exact List.mem_append_left _ hy
    · exact List.mem_append_right _ (List.mem_cons_of_mem _ (List.mem_cons_of_mem _ hy))
  have hits : its (mapB (rep e) x) = A ++ e :: B := by rw [mapB_its, h2]
  have hbl : ∀ y, y ∈ blobH (its (mapB (rep e) x)) ↔ y ∈ blobH A ∨ y = e.kh ∨ y = e.vh ∨ y ∈ blobH B := fun y => by
    rw [hits, blobH_append, ec, List.mem_append, List.mem_cons, List.mem_cons]
  have hT1 : Tree S1 o t (mapB (rep e) x) := by
    subst hS1
    refine ⟨r.fit, h.t1, h.t2, r.at', mapB_ok _ h.ok, ?_, ?_, ?_, by rw [mapB_nodes]; exact h.nodes, ?_, ?_, by rw [mapB_nk]; exact h.pos⟩
    · rw [mapB_its]
      refine List.pairwise_map.2 (h.sorted.imp fun {a b} q => ?_)
      unfold klt at q ⊢
      rw [rep_k, rep_k]
      exact q
    · intro a ha
      have hS : ∀ y, y ≠ g → reco (putWords S g 0 (bnWords t (setN n k e))) y = reco S y := r.fr
      rw [hits] at ha
      rcases List.mem_append.1 ha with ha | ha
      · have hx : a ∈ its x := by rw [h1]; exact List.mem_append_left _ ha
        exact (h.blobs a hx).frame (hS _ (hgk _ (mem_blobH.2 ⟨a, hx, Or.inl rfl⟩))) (hS _ (hgk _ (mem_blobH.2 ⟨a, hx, Or.inr rfl⟩)))
      · rcases List.mem_cons.1 ha with rfl | ha
        · exact hb.frame (hS _ hek.1) (hS _ hek.2)
        · have hx : a ∈ its x := by rw [h1]; exact List.mem_append_right _ (List.mem_cons_of_mem _ ha)
          exact (h.blobs a hx).frame (hS _ (hgk _ (mem_blobH.2 ⟨a, hx, Or.inl rfl⟩))) (hS _ (hgk _ (mem_blobH.2 ⟨a, hx, Or.inr rfl⟩)))
    · rw [mapB_its, List.length_map]; exact h.few
    · rw [hits, blobH_append, ec]
      refine List.nodup_append.2 ⟨t1, List.nodup_cons.2 ⟨fun q => ?_, List.nodup_cons.2 ⟨fun q => (oe _ (Or.inr rfl)).1 (hbx _ (Or.inr q)), t7⟩⟩, fun y hy z hz => ?_⟩
      · rcases List.mem_cons.1 q with q | q
        · exact ne q
        · exact (oe _ (Or.inl rfl)).1 (hbx _ (Or.inr q))
      · rintro rfl
        rcases List.mem_cons.1 hz with q | hz
        · exact (oe y (Or.inl q)).1 (hbx _ (Or.inl hy))
        · rcases List.mem_cons.1 hz with q | hz
          · exact (oe y (Or.inr q)).1 (hbx _ (Or.inl hy))
          · exact t3 y hy y (List.mem_cons_of_mem _ (List.mem_cons_of_mem _ hz)) rfl
    · intro y hy hb1
      rw [mapB_nodes] at hy
      rcases (hbl y).1 hb1 with q | q | q | q
      · exact h.apart y hy (hbx _ (Or.inl q))
      · exact (oe y (Or.inl q)).2 hy
      · exact (oe y (Or.inr q)).2 hy
      · exact h.apart y hy (hbx _ (Or.inr q))
  have hfr1 : ∀ y, y ≠ g → reco S1 y = reco S y := by rw [hS1]; exact r.fr
  have hg1 : Grew S S1 0 0 := by rw [hS1]; exact r.grew
  have kk : reco S1 e0.kh = some (wordsOf e0.k) := (hfr1 _ (hgk _ k0)).trans hb0.k
  have vv : reco S1 e0.vh = some (wordsOf e0.v) := (hfr1 _ (hgk _ v0)).trans hb0.v
  have hne0 : e0.kh ≠ e0.vh := fun q => t4 (by rw [q]; exact List.mem_cons_self ..)
  obtain ⟨S2, e2, f2, m2, o2, g2⟩ := look_drop hT1.fit kk
  obtain ⟨S3, e3, f3, m3, o3, g3⟩ := look_drop f2 ((o2 _ hne0.symm).trans vv)
  have hkx : e0.kh ∉ recs (mapB (rep e) x) ∧ e0.vh ∉ recs (mapB (rep e) x) := by
    have hne : ∀ y, y = e0.kh ∨ y = e0.vh → y ∉ blobH A ∧ y ∉ blobH B := fun y hy => by
      rcases hy with rfl | rfl
      · exact ⟨fun q => t3 _ q _ (List.mem_cons_self ..) rfl, fun q => t4 (List.mem_cons_of_mem _ q)⟩
      · exact ⟨fun q => t3 _ q _ (List.mem_cons_of_mem _ (List.mem_cons_self ..)) rfl, t6⟩
    have hall : ∀ y, y = e0.kh ∨ y = e0.vh → y ∈ blobH (its x) → y ∉ recs (mapB (rep e) x) := fun y hy hyx q => by
      unfold recs at q
      rcases List.mem_append.1 q with q | q
      · rw [mapB_nodes] at q
        exact h.apart y q hyx
      · rcases (hbl y).1 q with q | q | q | q
        · exact (hne y hy).1 q
        · exact (oe y (Or.inl q)).1 hyx
        · exact (oe y (Or.inr q)).1 hyx
        · exact (hne y hy).2 q
    exact ⟨hall _ (Or.inl rfl) k0, hall _ (Or.inr rfl) v0⟩
  refine ⟨hT1.fit, getBlob_look hT1.fit hb0.lv vv, (blobs_lt h.fit hb0).1, (blobs_lt h.fit hb0).2, by rw [e2]; exact f2.inv, S3, by rw [e2, e3], hT1.frame f3 (fun y hy => (o3 y fun q => hkx.2 (q ▸ hy)).trans (o2 y fun q => hkx.1 (q ▸ hy))), ?_, ((hg1.trans g2).trans g3), fun y hy => ?_, fun y hy => ?_⟩
  · rw [mapB_its]
    exact pairs_rep h.sorted r.find
  · have w1 : y ≠ e0.kh := fun q => hy (q ▸ List.mem_append_right _ k0)
    have w2 : y ≠ e0.vh := fun q => hy (q ▸ List.mem_append_right _ v0)
    have w3 : y ≠ g := fun q => hy (q ▸ List.mem_append_left _ r.mem)
    exact (o3 y w2).trans ((o2 y w1).trans (hfr1 y w3))
  · unfold recs at hy ⊢
    rcases List.mem_append.1 hy with q | q
    · rw [mapB_nodes] at q
      exact Or.inl (List.mem_append_left _ q)
    · rcases (hbl y).1 q with q | q | q | q
      · exact Or.inl (List.mem_append_right _ (hbx _ (Or.inl q)))
      · exact Or.inr (Or.inl q)
      · exact Or.inr (Or.inr q)
      · exact Or.inl (List.mem_append_right _ (hbx _ (Or.inr q)))
def Holds (S : St) (o : Nat → Nat) (t root : Nat) (L : List (List UInt8 × List UInt8)) (R : List Nat) : Prop :=
  (Empty S o t ∧ root = 0 ∧ L = [] ∧ R = []) ∨ ∃ (d : Nat) (x : Bt (d + 1)), Tree S o t x ∧ root = hd x ∧ L = pairs (its x) ∧ R = recs x
theorem Holds.fit {S : St} {o : Nat → Nat} {t root : Nat} {L : List (List UInt8 × List UInt8)} {R : List Nat} (h : Holds S o t root L R) : Fit S o := by
  rcases h with ⟨h, _⟩ | ⟨_, _, h, _⟩
  · exact h.fit
  · exact h.fit
theorem Holds.has {S : St} {o : Nat → Nat} {t root : Nat} {L : List (List UInt8 × List UInt8)} {R : List Nat} (h : Holds S o t root L R) : ∀ y ∈ R, reco S y ≠ none := by
  rcases h with ⟨_, _, _, rfl⟩ | ⟨_, _, h, _, _, rfl⟩
  · intro y hy; cases hy
  · exact h.has
theorem Holds.frame {S S' : St} {o o' : Nat → Nat} {t root : Nat} {L : List (List UInt8 × List UInt8)} {R : List Nat} (h : Holds S o t root L R) (hf : Fit S' o') (hs : ∀ y ∈ R, reco S' y = reco S y) : Holds S' o' t root L R := by
  rcases h with ⟨h, h1, h2, h3⟩ | ⟨d, x, h, h1, h2, h3⟩
  · exact Or.inl ⟨⟨hf, h.t1, h.t2⟩, h1, h2, h3⟩
  · refine Or.inr ⟨d, x, h.frame hf (by rw [← h3]; exact hs), h1, h2, h3⟩
end Bt
end Go.Proofs.YtepdkbmnkjfcpaaGreatDoor
namespace Go.Proofs.YtepdkbmnkjfcpaaGreatDoor
open Go.RowKit Go.BigFrame Go.Maps Go.WideMaps Lf Tr
abbrev ManyOn (w : World) (px ps t root : Nat) : Prop := TreeF w px ps 127 (manyV ps t) 3 t root
theorem reco_zero {S : St} {o : Nat → Nat} (hf : Fit S o) : reco S 0 = none := by
  cases h : reco S 0 with
  | none => rfl
  | some ws => have := (look_ok hf h).1; omega
theorem pairs_length (l : List It) : (pairs l).length = l.length := by unfold pairs; exact List.length_map _
def cntL (L : List (List UInt8 × List UInt8)) (a : List UInt8) : Nat := L.countP fun p => decide (cmpB p.1 a < 0)
theorem cntL_pairs (l : List It) (a : List UInt8) : cntL (pairs l) a = belowB a l := by
  unfold cntL pairs belowB
  rw [List.countP_map]
  rfl
theorem Bt.Tree.low40 {S : St} {o : Nat → Nat} {t d : Nat} {x : Bt (d + 1)} (h : Bt.Tree S o t x) : d < 40 := by have := h.low; omega
section
variable {w : World} {px ps t root : Nat} {S : St} {o : Nat → Nat} {Y : Nat → Prop} {L : List (List UInt8 × List UInt8)} {R : List Nat}
theorem holds_size (h : StOn w ps S Y) (hH : Bt.Holds S o t root L R) : Calls Tryz.prog 158 #[trB ps t, .int .u64 root] w fun e w' => e = .returned (.int .i64 (L.length : Nat)) ∧ Below w.heap.size w w' := by
  rcases hH with ⟨hE, rfl, rfl, rfl⟩ | ⟨d, x, hx, rfl, rfl, rfl⟩
  · exact bt_size0 h hE.fit.inv hE.t1 hE.t2 0 (by omega) (look_none (reco_zero hE.fit))
  · have := bt_size h hx.fit.inv hx.walk.read hx.walk.size.2
    rw [hx.walk.size.1] at this
    rw [pairs_length]
    exact this
theorem holds_down (h : StOn w ps S Y) (hH : Bt.Holds S o t root L R) (key : List UInt8) : ∃ E : Option It, (∀ W, Below w.heap.size w W → Calls Tryz.prog 225 #[trB ps t, .int .u64 root, SV key] W fun e w' => e = .returned (.tuple #[itO E, .bool E.isSome, .int .i64 (cntL L key : Nat)]) ∧ Below W.heap.size W w') ∧ Bt.getL L key = E.map (fun a : It => a.v) ∧ ∀ a, E = some a → a.k = key ∧ Blobs S a := by
  rcases hH with ⟨hE, rfl, rfl, rfl⟩ | ⟨d, x, hx, rfl, rfl, rfl⟩
  · exact ⟨none, fun W hW => bt_down0 (h.below hW) hE.fit.inv hE.t1 hE.t2 0 (by omega) (look_none (reco_zero hE.fit)) key, rfl, fun _ q => by cases q⟩
  · refine ⟨Bt.findB key (Bt.its x), fun W hW => ?_, Bt.getL_pairs _ _, fun a q => ?_⟩
    · rw [cntL_pairs]
      exact bt_down (h.below hW) hx.walk hx.low40 key
    · unfold Bt.findB at q
      exact ⟨by simpa using List.find?_some q, hx.blobs a (List.mem_of_find?_eq_some q)⟩
theorem many_tree_len (h : StOn w ps S Y) (hH : Bt.Holds S o t root L R) (hT : ManyOn w px ps t root) :
    Calls Tryz.prog 24 #[PV px] w fun e w' => e = .returned (.int .i64 (L.length : Nat)) ∧ Below w.heap.size w w' :=
  treeF_len hT methM_size enterM_size fun _ hW => many_size fun _ hV => btree_size (holds_size (h.below (hW.trans (hV.mono hW.size))) hH)
theorem many_tree_rank (h : StOn w ps S Y) (hH : Bt.Holds S o t root L R) (hT : ManyOn w px ps t root) (k : List UInt8) :
    Calls Tryz.prog 25 #[PV px, SV k] w fun e w' => e = .returned (.int .i64 (cntL L k : Nat)) ∧ Below w.heap.size w w' := by
  obtain ⟨E, hd, _⟩ := holds_down h hH k
  exact treeF_rank hT k methM_rank enterM_rank fun _ hW => many_rank k fun _ hV => btree_rank (hd _ (hW.trans (hV.mono hW.size)))
theorem many_tree_at (h : StOn w ps S Y) (hH : Bt.Holds S o t root L R) (hT : ManyOn w px ps t root) (k : Nat) {p : List UInt8 × List UInt8} (hk : L[k]? = some p) :
    Calls Tryz.prog 19 #[PV px, .int .i64 k] w fun e w' => e = .returned (.tuple #[prV p, .int .i64 0]) ∧ Below w.heap.size w w' := by
  rcases hH with ⟨hE, rfl, rfl, rfl⟩ | ⟨d, x, hx, rfl, rfl, rfl⟩
  · cases hk
  · have hf := hx.fit
    have hke : ∃ e, (Bt.its x)[k]? = some e ∧ p = (e.k, e.v) := by
      unfold pairs at hk
      rw [List.getElem?_map] at hk
      cases q : (Bt.its x)[k]? with
      | none => rw [q] at hk; cases hk
      | some e =>
        rw [q] at hk
        cases hk
        exact ⟨e, rfl, rfl⟩
    obtain ⟨e, hke, rfl⟩ := hke
    have hba := hx.blobs e (List.mem_of_getElem? hke)
    have hl := Bt.blobs_lt hf hba
    have hg := getBlob_look hf hba.lv hba.v
    have hgk := getBlob_look hf hba.lk hba.k
    exact treeF_at hT k (e.k, e.v) e.kh e.vh 0 0 methM_at enterM_at (fun _ hW => many_at k e.kh e.vh 0 fun _ hV => btree_at (h.below (hW.trans (hV.mono hW.size))) hx.walk hx.low40 hke) (fun W hW => by
      have := blob_get (h.below hW) hf.inv e.kh hl.1 (by rw [hgk]; simp)
      rw [hgk] at this
      exact this) (fun W hW => by
      have := blob_get (h.below hW) hf.inv e.vh hl.2 (by rw [hg]; simp)
      rw [hg] at this
      exact this)
structure PutL (S : St) (L : List (List UInt8 × List UInt8)) (R : List Nat) (Hold : St → (Nat → Nat) → Nat → List (List UInt8 × List UInt8) → List Nat → Prop) (a b : List UInt8) (p q : Nat) (x : Nat) (S3 : St) : Prop where
  holds : ∃ o3 R3, Hold S3 o3 x (putL L a b) R3 ∧ ∀ y ∈ R3, y ∈ R ∨ reco S y = none
  grew : Grew S S3 p q
  apart : ∀ y, y ∉ R → reco S y ≠ none → reco S3 y = reco S y
theorem many_tree_put {a : List UInt8} (hins : Bt.getL L a = none → L ≠ [] → ∀ d, InsAt d) (h : StOn w ps S Y) (hH : Bt.Holds S o t root L R) (hT : ManyOn w px ps t root) (hpx : Y px) (b : List UInt8) (ha : a.length ≤ 1000) (hb : b.length ≤ 1000) (hc : L.length < 126) (hr : Space S 20 9) :
    Calls Tryz.prog 16 #[PV px, prV (a, b)] w fun e w' => ∃ (x : Nat) (S3 : St), e = .returned (.tuple #[SV ((Bt.getL L a).getD []), .bool (Bt.getL L a).isSome, .int .i64 0]) ∧ StOn w' ps S3 Y ∧ Keep (fun k => Y k ∧ k ≠ px) w w' ∧ ManyOn w' px ps t x ∧ PutL S L R (fun S o x L R => Bt.Holds S o t x L R) a b 20 9 x S3 := by
  obtain ⟨ka, vb, S1, o1, hit, hio, f1, n1, n2, hne, l1, l2, q1, g1⟩ := Bt.two_fit hH.fit ha hb (hr.mono (by omega) (by omega))
  have hfr : ∀ y, reco S y ≠ none → reco S1 y = reco S y := fun y hy => q1 y (by rintro rfl; exact hy n1) (by rintro rfl; exact hy n2)
  have hr1 : Space S1 14 7 := Space.grew (hr.mono (p' := 6 + 14) (q' := 2 + 7) (by omega) (by omega)) g1
  have hbl : Blobs S1 ⟨0, ka, vb, a, b⟩ := ⟨l1, l2, ha, hb⟩
  rcases hH with ⟨hE, rfl, rfl, rfl⟩ | ⟨d, x, hx, rfl, rfl, rfl⟩
  · -- the first key
    refine (treeF_put h hE.fit.inv hT hpx a b hio hit false [] (R := fun x ik iv S' => ik = 0 ∧ iv = 0 ∧ PutL S [] [] (fun S o x L R => Bt.Holds S o t x L R) a b 20 9 x S') (R2 := fun x S' => PutL S [] [] (fun S o x L R => Bt.Holds S o t x L R) a b 20 9 x S') methM_insert enterM_insert (fun W Z hW _ _ => many_insert hW false fun V Z' hV => ?_) fun x ik iv S' hR W Z hW _ _ => ?_).mono ?_
    · refine (bt_insert_first hV ⟨f1, hE.t1, hE.t2⟩ (e := ⟨0, ka, vb, a, b⟩) ⟨hbl, hne⟩ (hr1.mono (by omega) (by omega))).mono ?_
      rintro e w' ⟨y, S', o', rfl, hs, hk, ht, hi, hn, hap, hg⟩
      refine ⟨_, _, _, S', rfl, hs, hk, rfl, rfl, ⟨⟨o', Bt.recs y, Or.inr ⟨0, y, ht, rfl, ?_, rfl⟩, fun z hzm => ?_⟩, (g1.trans hg).mono (by omega) (by omega), fun z _ hz => (hap z (by rw [hfr z hz]; exact hz)).trans (hfr z hz)⟩⟩
      · rw [hi]; rfl
      · refine Or.inr ?_
        cases q : reco S z with
        | none => rfl
        | some ws =>
          exfalso
          have hz1 := hfr z (by rw [q]; simp)
          unfold Bt.recs at hzm
          rcases List.mem_append.1 hzm with hm | hm
          · rw [hn z hm, q] at hz1; cases hz1
          · rw [hi] at hm
            have hm : z ∈ [ka, vb] := hm
            rcases List.mem_cons.1 hm with rfl | hm
            · rw [n1] at q; cases q
            · rw [List.mem_singleton.1 hm, n2] at q; cases q
    · obtain ⟨rfl, rfl, hR⟩ := hR
      refine (tree_gone0 px 0 0 W).mono ?_
      rintro e w' ⟨rfl, hb⟩
      exact ⟨S', rfl, hW.below hb, hW.keep hb, hR⟩
    · rintro e w' ⟨x, S3, rfl, h1, h2, h3, h4⟩
      exact ⟨x, S3, rfl, h1, h2, h3, h4⟩
  · have ht1 : Bt.Tree S1 o1 t x := hx.frame f1 fun y hy => hfr y (hx.has y hy)
    have hlen : (Bt.its x).length < 126 := by rw [pairs_length] at hc; exact hc
    have hoff : ka ∉ Bt.recs x ∧ vb ∉ Bt.recs x := ⟨fun q => hx.has _ q n1, fun q => hx.has _ q n2⟩
    have hlow : d ≤ 5 := by
      have h1 := Bt.pow_le t hx.t1 hx.ok hx.pos
      rcases Nat.lt_or_ge 5 d with h3 | h3
      · have : 2 ^ 7 ≤ 2 ^ (d + 1) := Nat.pow_le_pow_right (by decide) (by omega)
        have e : 2 ^ 7 = 128 := by decide
        omega
      · exact h3
    cases hf : Bt.findB a (Bt.its x) with
    | none =>
      have hg0 : Bt.getL (pairs (Bt.its x)) a = none := by rw [Bt.getL_pairs, hf]; rfl
      rw [hg0]
      have hno : ∀ z ∈ Bt.its x, z.k ≠ a := fun z hz q => by
        unfold Bt.findB at hf
        have := List.find?_eq_none.1 hf z hz
        rw [q] at this
        simp at this
      have hLne : pairs (Bt.its x) ≠ [] := fun q => by
        have h1 := Bt.pow_le t hx.t1 hx.ok hx.pos
        have h2 := congrArg List.length q
        rw [pairs_length] at h2
        have h3 : 2 ^ 1 ≤ 2 ^ (d + 1) := Nat.pow_le_pow_right (by decide) (by omega)
        have h2 : (Bt.its x).length = 0 := h2
        omega
      have hq := (needI_eq t a x).2
      have hsp : Space S1 (2 * needI t a x) (needI t a x) := hr1.mono (by omega) (by omega)
      refine (treeF_put h hx.fit.inv hT hpx a b hio hit false [] (R := fun x' ik iv S' => ik = 0 ∧ iv = 0 ∧ PutL S (pairs (Bt.its x)) (Bt.recs x) (fun S o x L R => Bt.Holds S o t x L R) a b 20 9 x' S') (R2 := fun x' S' => PutL S (pairs (Bt.its x)) (Bt.recs x) (fun S o x L R => Bt.Holds S o t x L R) a b 20 9 x' S') methM_insert enterM_insert (fun W Z hW _ _ => many_insert hW false fun V Z' hV => ?_) fun x' ik iv S' hR W Z hW _ _ => ?_).mono ?_
      · refine (bt_insert_new (hins hg0 hLne) hV ht1 (e := ⟨0, ka, vb, a, b⟩) ⟨hbl, hne, hoff, hno, by omega⟩ hsp).mono ?_
        rintro e w' ⟨d', y, S', o', rfl, hs, hk, ht, hi, hn, hap, hg⟩
        have hg : Grew S1 S' (2 * needI t a x) (needI t a x) := hg
        refine ⟨_, _, _, S', rfl, hs, hk, rfl, rfl, ⟨⟨o', Bt.recs y, Or.inr ⟨d', y, ht, rfl, ?_, rfl⟩, fun z hzm => ?_⟩, (g1.trans hg).mono (by omega) (by omega), fun z hzx hz => (hap z (fun q => hzx (List.mem_append_left _ q)) (by rw [hfr z hz]; exact hz)).trans (hfr z hz)⟩⟩
        · rw [hi]
          exact (Bt.pairs_ins (e := ⟨0, ka, vb, a, b⟩) hx.sorted hno).symm
        · unfold Bt.recs at hzm
          rcases List.mem_append.1 hzm with hm | hm
          · rcases hn z hm with q | q
            · exact Or.inl (List.mem_append_left _ q)
            · refine Or.inr ?_
              cases q2 : reco S z with
              | none => rfl
              | some ws =>
                have := hfr z (by rw [q2]; simp)
                rw [q, q2] at this
                cases this
          · rw [hi] at hm
            rcases (Bt.blobH_ins z).1 hm with rfl | rfl | q
            · exact Or.inr n1
            · exact Or.inr n2
            · exact Or.inl (List.mem_append_right _ q)
      · obtain ⟨rfl, rfl, hR⟩ := hR
        refine (tree_gone0 px 0 0 W).mono ?_
        rintro e w' ⟨rfl, hb⟩
        exact ⟨S', rfl, hW.below hb, hW.keep hb, hR⟩
      · rintro e w' ⟨x', S3, rfl, h1, h2, h3, h4⟩
        exact ⟨x', S3, rfl, h1, h2, h3, h4⟩
    | some e0 =>
      have hg0 : Bt.getL (pairs (Bt.its x)) a = some e0.v := by rw [Bt.getL_pairs, hf]; rfl
      rw [hg0]
      obtain ⟨⟨g, n0, k0⟩, hnb⟩ := Bt.nodeB_some (key := a) ht1.walk (by rw [hf]; rfl)
      obtain ⟨e1, hra⟩ := Bt.rep_at (e := ⟨0, ka, vb, a, b⟩) (Bt.blobs_lt f1 hbl) ht1.walk ht1.nodes ht1.lts hnb
      obtain rfl : e1 = e0 := Option.some.inj (hra.find.symm.trans hf)
      obtain ⟨S2, hS2⟩ : ∃ S2, S2 = putWords S1 g 0 (bnWords t (Bt.setN n0 k0 ⟨0, ka, vb, a, b⟩)) := ⟨_, rfl⟩
      obtain ⟨i2, b2, lk, lv, d2, S3, hS3, tS3, pS3, g3, fr3, sub3⟩ := ht1.swap hbl hne hoff hra hS2
      have hput : PutL S (pairs (Bt.its x)) (Bt.recs x) (fun S o x L R => Bt.Holds S o t x L R) a b 20 9 (Bt.hd x) S3 := by
        refine ⟨⟨o1, _, Or.inr ⟨d, _, tS3, (Bt.mapB_hd _ x).symm, pS3.symm, rfl⟩, fun y hy => ?_⟩, (g1.trans g3).mono (by omega) (by omega), fun y hy hz => (fr3 y hy).trans (hfr y hz)⟩
        rcases sub3 y hy with q | rfl | rfl
        · exact Or.inl q
        · exact Or.inr n1
        · exact Or.inr n2
      refine (treeF_put h hx.fit.inv hT hpx a b hio hit true e1.v (R := fun x' ik iv S' => x' = Bt.hd x ∧ ik = e1.kh ∧ iv = e1.vh ∧ S' = S2) (R2 := fun x' S' => PutL S (pairs (Bt.its x)) (Bt.recs x) (fun S o x L R => Bt.Holds S o t x L R) a b 20 9 x' S') methM_insert enterM_insert (fun W Z hW _ _ => many_insert hW true fun V Z' hV => ?_) fun x' ik iv S' hR W Z hW hTW hZ => ?_).mono ?_
      · refine (bt_insert_was hV ht1 (e := ⟨0, ka, vb, a, b⟩) hbl hnb hra).mono ?_
        rintro e w' ⟨rfl, hs, hk⟩
        rw [← hS2] at hs
        exact ⟨_, _, _, S2, rfl, hs, hk, rfl, rfl, rfl, rfl⟩
      · obtain ⟨rfl, rfl, rfl, rfl⟩ := hR
        refine (treeF_gone hW i2.inv hTW hZ e1.kh e1.vh lk lv (by rw [b2]; simp) d2).mono ?_
        rintro e w' ⟨rfl, hs, hk⟩
        rw [b2]
        rw [← hS3] at hs
        exact ⟨S3, rfl, hs, hk, hput⟩
      · rintro e w' ⟨x', S4, rfl, h1, h2, h3, h4⟩
        exact ⟨x', S4, rfl, h1, h2, h3, h4⟩
end
end Go.Proofs.YtepdkbmnkjfcpaaGreatDoor
namespace Go.Proofs.YtepdkbmnkjfcpaaGreatDoor
open Go.RowKit Go.BigFrame Go.Maps Go.WideMaps Lf Tr
theorem bulk_asked3 {w : World} {ps : Nat} {S : St} {Y : Nat → Prop} (h : StOn w ps S Y) (hi : Inv S) {t : Nat} (t1 : 2 ≤ t) (t2 : t ≤ 16) :
    Calls Tryz.prog 106 #[PV ps, .int .i64 3, .int .i64 t] w fun e w' => e = .returned (.int .i64 0) ∧ w = w' := by
  have hlen := st_len h hi 0 (by omega)
  rw [len_zero] at hlen
  have hbw := fun W => bnode_words t t1 t2 W
  have h6 : ((6 * (t : Int)) == 0) = false := by simp; omega
  have HG := Lib.hid (And.intro hlen hbw)
  clear hlen h hi hbw
  go_enter Tryz.func106, Tryz.ntmps106
  go_wp2_with fail
  refine HG.out.1.mono ?_
  rintro e w1 ⟨rfl, rfl⟩
  go_wp2_with fail
  refine (HG.out.2 _).mono ?_
  rintro e w1 ⟨rfl, rfl⟩
  go_wp2_with fail
  go_ret
  exact ⟨rfl, rfl⟩
theorem btree_check0 {w : World} {ps : Nat} {S : St} {Y : Nat → Prop} (h : StOn w ps S Y) (hi : Inv S) {t : Nat} (t1 : 2 ≤ t) (t2 : t ≤ 16) :
    Calls Tryz.prog 112 #[PV ps, .int .i64 t, .int .u64 0] w fun e w' => e = .returned (.int .i64 0) ∧ w = w' := by
  have HG := Lib.hid (bt_asked h hi t1 t2)
  clear h hi
  go_enter Tryz.func112, Tryz.ntmps112
  go_wp2_with fail
  refine HG.out.mono ?_
  rintro e w1 ⟨rfl, rfl⟩
  go_wp2_with fail
  go_ret
  exact ⟨rfl, rfl⟩
theorem bulk_check03 {w : World} {ps : Nat} {S : St} {Y : Nat → Prop} (h : StOn w ps S Y) (hi : Inv S) {t : Nat} (t1 : 2 ≤ t) (t2 : t ≤ 16) :
    Calls Tryz.prog 76 #[PV ps, .int .i64 3, .int .i64 t, .int .u64 0] w fun e w' => e = .returned (.int .i64 0) ∧ w = w' := by
  have HG := Lib.hid (And.intro (bulk_asked3 h hi t1 t2) (btree_check0 h hi t1 t2))
  clear h hi
  go_enter Tryz.func76, Tryz.ntmps76
  go_wp2_with fail
  refine HG.out.1.mono ?_
  rintro e w1 ⟨rfl, rfl⟩
  go_wp2_with fail
  refine HG.out.2.mono ?_
  rintro e w1 ⟨rfl, rfl⟩
  go_wp2_with fail
  go_ret
  exact ⟨rfl, rfl⟩
theorem many_open {w : World} {ps : Nat} {S : St} {Y : Nat → Prop} (h : StOn w ps S Y) (hi : Inv S) {t : Nat} (t1 : 2 ≤ t) (t2 : t ≤ 16) :
    Calls Tryz.prog 28 #[PV ps, .int .i64 3, .int .i64 t, .int .u64 0] w fun e w' => ∃ px, e = .returned (.tuple #[PV px, .int .i64 0]) ∧ ManyOn w' px ps t 0 ∧ Below w.heap.size w w' ∧ w.heap.size ≤ px := by
  have HG := Lib.hid (bulk_check03 h hi t1 t2)
  have q := heap_alloc_new w (.cells #[PV ps, .int .i64 3, .int .i64 t, .iface 127 (.agg #[PV ps, .int .i64 t]), .int .u64 0] 45)
  have B := (Below.refl w.heap.size w).alloc (Nat.le_refl _) (.cells #[PV ps, .int .i64 3, .int .i64 t, .iface 127 (.agg #[PV ps, .int .i64 t]), .int .u64 0] 45)
  have HB := Lib.hid (And.intro q B)
  clear h hi q B
  go_enter Tryz.func28, Tryz.ntmps28
  go_wp2_with fail
  refine HG.out.mono ?_
  rintro e w1 ⟨rfl, rfl⟩
  go_wp2_with fail
  go_ret2
  exact ⟨w.heap.size, rfl, HB.out.1, HB.out.2, Nat.le_refl _⟩
theorem many_new {w : World} {ps : Nat} {S : St} {Y : Nat → Prop} (h : StOn w ps S Y) (hi : Inv S) {t : Nat} (t1 : 2 ≤ t) (t2 : t ≤ 16) :
    Calls Tryz.prog 27 #[PV ps, .int .i64 3, .int .i64 t] w fun e w' => ∃ px, e = .returned (.tuple #[PV px, .int .i64 0]) ∧ ManyOn w' px ps t 0 ∧ Below w.heap.size w w' ∧ w.heap.size ≤ px := by
  have HG := Lib.hid (many_open h hi t1 t2)
  clear h hi
  go_enter Tryz.func27, Tryz.ntmps27
  go_wp2_with fail
  refine HG.out.mono ?_
  rintro e w1 ⟨px, rfl, hr⟩
  have HB := Lib.hid hr
  clear hr
  go_wp2_with fail
  go_ret2
  exact ⟨px, rfl, HB.out⟩
end Go.Proofs.YtepdkbmnkjfcpaaGreatDoor
