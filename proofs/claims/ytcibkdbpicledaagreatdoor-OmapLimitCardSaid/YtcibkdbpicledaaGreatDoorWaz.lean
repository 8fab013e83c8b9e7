import Derived.Test.YtcibkdbpicledaaGreatDoorWay
set_option maxRecDepth 100000
set_option maxHeartbeats 6400000
namespace Go.Proofs.YtcibkdbpicledaaGreatDoor
open Go.RowKit Go.BigFrame Go.Maps Go.WideMaps Lf Tr
open Go.Shelf
namespace Bt
structure Empty (S : St) (o : Nat → Nat) (t : Nat) : Prop where
 fit : Fit S o
 t1 : 2 ≤ t
 t2 : t ≤ 16
structure First (S : St) (e : It) : Prop where
 blobs : Blobs S e
 ne : e.kh ≠ e.vh
def leafOf (r : Nat) (e : It) : Bt 1 := (⟨r, [e], []⟩ : Bn (Bt 0))
theorem first_tree {S : St} {o : Nat → Nat} {t : Nat} (h : Empty S o t) {e : It} (n : First S e) {r : Nat} {ws : List Nat} (hw : reco S r = some ws) (hl : ws.length = 6 * t) (hk : r ≠ e.kh) (hv : r ≠ e.vh) :
 Ok t (leafOf r e) ∧ BnLt (bn (leafOf r e)) ∧ Tree (putWords S r 0 (bnWords t (bn (leafOf r e)))) o t (leafOf r e) ∧ (∀ z, z ≠ r → reco (putWords S r 0 (bnWords t (bn (leafOf r e)))) z = reco S z) ∧ Grew S (putWords S r 0 (bnWords t (bn (leafOf r e)))) 0 0 := by
 have t1 := h.t1
 have ok : Ok t (leafOf r e) := ⟨by show 1 ≤ 2 * t - 1; omega, rfl, fun k hk => by have hk : k ∈ ([] : List (Bt 0)) := hk; simp at hk⟩
 have hkids : ∀ k ∈ Bn.ks (leafOf r e), At S t k := fun k hk => by have hk : k ∈ ([] : List (Bt 0)) := hk; simp at hk
 have hits : its (leafOf r e) = [e] := its_leaf _
 have hb := blobs_lt h.fit n.blobs
 have hbl : BnLt (bn (leafOf r e)) := bnLt_of h.fit (fun a ha => by
  have ha : a ∈ [e] := ha
  rw [List.mem_singleton.1 ha]; exact hb) hkids (by rw [hits]; show 1 < _; omega)
 obtain ⟨p1, p2, p3, p4⟩ := put_node (x := leafOf r e) h.fit hkids (fun k hk => by have hk : k ∈ ([] : List (Bt 0)) := hk; simp at hk) (ws := ws) hw hl hbl (by show 1 < 1000; omega)
 have p3 : ∀ z, z ≠ r → reco (putWords S r 0 (bnWords t (bn (leafOf r e)))) z = reco S z := p3
 have hnod : Bt.nodes (leafOf r e) = [r] := by rw [nodes_mk]; rfl
 refine ⟨ok, hbl, ⟨p1, h.t1, h.t2, p2, ok, by rw [hits]; exact List.pairwise_singleton _ _, ?_, by rw [hits]; show 1 < _; omega, by rw [hnod]; simp, ?_, ?_, Nat.le_refl 1⟩, p3, p4⟩
 · rw [hits]
   intro a ha
   rw [List.mem_singleton.1 ha]
   exact n.blobs.frame (p3 _ (Ne.symm hk)) (p3 _ (Ne.symm hv))
 · rw [hits]
   show [e.kh, e.vh].Nodup
   simp [n.ne]
 · rw [hits, hnod]
   intro z hz hm
   rw [List.mem_singleton.1 hz] at hm
   have hm : r ∈ [e.kh, e.vh] := hm
   simp at hm
   exact hm.elim hk hv
end Bt
theorem two_alloc (w : World) (o1 o2 : Obj) : Below w.heap.size w (w.drew.alloc o1) ∧ Below w.heap.size w ((w.drew.alloc o1).alloc o2) ∧ ((w.drew.alloc o1).alloc o2).heap[w.heap.size]? = some o1 ∧ ((w.drew.alloc o1).alloc o2).heap[w.heap.size + 1]? = some o2 := by
 have z1 : (w.drew.alloc o1).heap.size = w.heap.size + 1 := by simp
 have b1 := ((Below.refl w.heap.size w).drew).alloc (Nat.le_refl _) o1
 have c2 := (Below.refl (w.drew.alloc o1).heap.size (w.drew.alloc o1)).alloc (Nat.le_refl _) o2
 have q1 := heap_alloc_new w.drew o1
 have q2 := heap_alloc_new (w.drew.alloc o1) o2
 have r1 := (c2.block w.heap.size (by omega)).trans q1
 rw [z1] at q2
 exact ⟨b1, b1.trans (c2.mono (by rw [z1]; omega)), r1, q2⟩
theorem bt_insert_first {w : World} {ps : Nat} {S : St} {o : Nat → Nat} {Y : Nat → Prop} (h : StOn w ps S Y) {t : Nat} (hx : Bt.Empty S o t) {e : It} (hn : Bt.First S e) (hr : Space S (2 * 1) 1) :
 Calls Tryz.prog 316 #[PV ps, .int .i64 t, .int .u64 0, itV e.kh e.vh] w fun en w' => ∃ (y : Bt 1) (S' : St) (o' : Nat → Nat), en = .returned (.tuple #[.int .u64 (Bt.hd y : Nat), itV 0 0, .bool false, .int .i64 0]) ∧ StOn w' ps S' Y ∧ Keep Y w w' ∧ Bt.Tree S' o' t y ∧ Bt.its y = [e] ∧ (∀ z ∈ Bt.nodes y, reco S z = none) ∧ (∀ z, reco S z ≠ none → reco S' z = reco S z) ∧ Grew S S' 2 1 := by
 have B0 := ((Below.refl w.heap.size w).alloc (Nat.le_refl _) (.cells #[.int .u64 e.kh, .int .u64 e.vh] 137)).alloc (by simp) (.cells #[.int .u64 0, .int .u64 0] 137)
 have z1 : (w.alloc (.cells #[.int .u64 e.kh, .int .u64 e.vh] 137)).heap.size = w.heap.size + 1 := by simp
 have q1 := heap_alloc_new w (.cells #[.int .u64 e.kh, .int .u64 e.vh] 137)
 have q2 := heap_alloc_new (w.alloc (.cells #[.int .u64 e.kh, .int .u64 e.vh] 137)) (.cells #[.int .u64 0, .int .u64 0] 137)
 have q1 := (((Below.refl (w.alloc (.cells #[.int .u64 e.kh, .int .u64 e.vh] 137)).heap.size (w.alloc (.cells #[.int .u64 e.kh, .int .u64 e.vh] 137))).alloc (Nat.le_refl _) (.cells #[.int .u64 0, .int .u64 0] 137)).block w.heap.size (by simp)).trans q1
 rw [z1] at q2
 have hz : ((w.alloc (.cells #[.int .u64 e.kh, .int .u64 e.vh] 137)).alloc (.cells #[.int .u64 0, .int .u64 0] 137)).heap.size = w.heap.size + 2 := by simp
 generalize hW : (w.alloc (.cells #[.int .u64 e.kh, .int .u64 e.vh] 137)).alloc (.cells #[.int .u64 0, .int .u64 0] 137) = W0 at *
 have A1 := (Below.refl W0.heap.size W0).alloc (Nat.le_refl _) (.cells #[PV ps, .int .i64 t] 254)
 have q3 := heap_alloc_new W0 (.cells #[PV ps, .int .i64 t] 254)
 have hz1 : (W0.alloc (.cells #[PV ps, .int .i64 t] 254)).heap.size = w.heap.size + 3 := by simp [hz]
 have hi := hx.fit.inv
 have hw := hi
 have hl0 : S.len 0 = (0, 7) := len_zero S
 have has := bt_asked (h.below B0) hi hx.t1 hx.t2
 obtain ⟨W1, hW1⟩ : ∃ W1, W0.alloc (.cells #[PV ps, .int .i64 t] 254) = W1 := ⟨_, rfl⟩
 rw [hW1] at A1 q3 hz1
 have B1 := B0.trans (A1.mono (by omega))
 rw [hz] at q3
 have hkb := getBlob_look hx.fit hn.blobs.lk hn.blobs.k
 have hbg := blob_get (h.below B1) hi e.kh (Bt.blobs_lt hx.fit hn.blobs).1 (by rw [hkb]; simp)
 rw [hkb] at hbg
 have q1 := (A1.block _ (by omega)).trans q1
 have q2 := (A1.block _ (by omega)).trans q2
 obtain ⟨x0, x1⟩ := cells2 q1
 have H0 := kq7 h hx hn hr hw hi hz1
 have H1 := kq4 B1 q1 q2 q3
 have HAS := Lib.hid has
 have HBG := Lib.hid hbg
 clear z1 q1 q2 q3 B0 B1 A1 hw hi has hkb hbg h hx hn hr
 unfold itV
 go_enter Tryz.func316, Tryz.ntmps316
 go_wp2_with fail
 refine HAS.out.mono ?_
 rintro en w1 ⟨rfl, rfl⟩
 clear hW
 go_wp2_with fail
 refine HBG.out.mono ?_
 rintro en w2 ⟨rfl, hb2⟩
 clear x0 x1
 have p1 := (hb2.block _ (by have := H0.out.2.2.2.2.2.2; omega)).trans H1.out.2.1
 have p2 := (hb2.block _ (by have := H0.out.2.2.2.2.2.2; omega)).trans H1.out.2.2.1
 have p3 := (hb2.block _ (by have := H0.out.2.2.2.2.2.2; omega)).trans H1.out.2.2.2
 have b2 := H1.out.1.trans (hb2.mono H1.out.1.size)
 obtain ⟨x0, x1⟩ := cells2 p3
 have hget := bt_get0 (H0.out.1.below b2) H0.out.2.2.2.2.2.1 H0.out.2.1.t1 H0.out.2.1.t2 0 (by omega) hl0
 have hs2 : w.heap.size + 3 ≤ w2.heap.size := by have := hb2.size; have := H0.out.2.2.2.2.2.2; omega
 unfold trB bnV at hget
 have HGT := Lib.hid hget
 have H2 := kq4 b2 p1 p2 p3
 clear hb2 p1 p2 p3 b2 hget HBG HAS H1 hW1
 go_wp2_with fail
 refine HGT.out.mono ?_
 rintro en w3 ⟨rfl, hb3⟩
 go_wp2_with fail
 have A3 := (Below.refl w3.heap.size w3).alloc (Nat.le_refl _) (.cells #[.slice none 0 0, .slice none 0 0, .slice none 0 0, .int .u64 0] 286)
 obtain ⟨W3, hW3⟩ : ∃ W3, w3.alloc (.cells #[.slice none 0 0, .slice none 0 0, .slice none 0 0, .int .u64 0] 286) = W3 := ⟨_, rfl⟩
 rw [hW3] at A3
 rw [hW3]
 clear hW3
 have c3 := hb3.trans (A3.mono hb3.size)
 have p1 := (c3.block _ (by omega)).trans H2.out.2.1
 have p2 := (c3.block _ (by omega)).trans H2.out.2.2.1
 have p3 := (c3.block _ (by omega)).trans H2.out.2.2.2
 have B3 := H2.out.1.trans (c3.mono H2.out.1.size)
 have hs3 : w.heap.size + 3 ≤ W3.heap.size := by have := c3.size; omega
 have hdn := fun W (hw : Below W3.heap.size W3 W) => bt_down0 (H0.out.1.below (B3.trans (hw.mono B3.size))) H0.out.2.2.2.2.2.1 H0.out.2.1.t1 H0.out.2.1.t2 0 (by omega) hl0 e.k
 have hfd := btree_find (R := none) (hdn W3 (Below.refl _ _)) fun W hW => hdn W (by rw [hW]; exact (Below.refl _ _).alloc (Nat.le_refl _) _)
 unfold itO itV at hfd
 dsimp only [Option.isSome] at hfd
 have HFD := Lib.hid hfd
 have H3 := kq4 B3 p1 p2 p3
 clear A3 c3 p1 p2 p3 B3 hdn hfd x0 x1 hb3 H2 HGT
 refine HFD.out.mono ?_
 rintro en w4 ⟨rfl, hb4⟩
 go_wp2_with fail
 have A4 := (Below.refl w4.heap.size w4).alloc (Nat.le_refl _) (.cells #[.int .u64 0, .int .u64 0] 137)
 obtain ⟨W4, hW4⟩ : ∃ W4, w4.alloc (.cells #[.int .u64 0, .int .u64 0] 137) = W4 := ⟨_, rfl⟩
 rw [hW4] at A4
 rw [hW4]
 clear hW4
 have c4 := hb4.trans (A4.mono hb4.size)
 have p1 := (c4.block _ (by omega)).trans H3.out.2.1
 have p2 := (c4.block _ (by omega)).trans H3.out.2.2.1
 have p3 := (c4.block _ (by omega)).trans H3.out.2.2.2
 have B4 := H3.out.1.trans (c4.mono H3.out.1.size)
 have hs4 : w.heap.size + 3 ≤ W4.heap.size := by have := c4.size; omega
 have st4 := H0.out.1.wide B4
 have HND := fun W (_ : Below W4.heap.size W4 W) => bt_need0 W ps t e.k
 have HMK := fun W (hw : Below W4.heap.size W4 W) => bt_maker (st4.below hw) H0.out.2.1.fit H0.out.2.1.t1 H0.out.2.1.t2 1 (by omega) H0.out.2.2.2.1
 unfold trB at HND HMK
 have HND := Lib.hid HND
 have HMK := Lib.hid HMK
 have H4 := kq5 B4 p1 p2 p3 st4
 clear A4 c4 p1 p2 p3 B4 st4 hb4 H3 HFD
 obtain ⟨I, hIi, hIo⟩ : ∃ I : World → Prop, (∀ w', I w' → w'.heap[w.heap.size + 2]? = W4.heap[w.heap.size + 2]?) ∧ (∀ w', w'.heap[w.heap.size + 2]? = W4.heap[w.heap.size + 2]? → I w') := ⟨fun w' => w'.heap[w.heap.size + 2]? = W4.heap[w.heap.size + 2]?, fun _ h => h, fun _ h => h⟩
 have hz1 := fun x : Keeps I => (hIi _ x.ok).trans H4.out.2.2.2.1
 obtain ⟨r0, r1⟩ := cellsX2 hz1
 have hI0 : I W4.drew := hIo _ rfl
 have HIo := Lib.hid hIo
 clear hIi hIo hz1
 refine wp_region_plan I (.take 0 (.take 1 (.take 2 (.take 3 (.go 4 (.go 5 (.take 6 (.take 7 (.take 8 (.go 9 (.go 10 .nil))))))))))) (by kernel_rfl) (by kernel_rfl) hI0 ?_
 iterate 4
  refine' plan_take _ (by rfl) _ (by rfl) ?_ ?_
  rotate_left
  · rintro _ ⟨x, rfl⟩
    have hxr0 := r0 x
    have hxr1 := r1 x
    go_simp
    try with_reducible rfl
  try simp only [pu]
 refine pD fun K hK => ?_
 go_simp
 refine (HND.out _ (Below.refl _ W4).drew).mono ?_
 rintro en w5 ⟨rfl, hb5⟩
 have hI5 : I w5 := HIo.out _ (hb5.block _ hs4)
 have B5 := (Below.refl W4.heap.size W4).drew.trans hb5
 have HB5 := Lib.hid B5
 clear hb5 B5
 try go_simp
 refine hK.out _ _ (hI5) ?_
 clear hK K
 try simp only [pu]
 refine pD fun K hK => ?_
 go_simp
 refine (HMK.out _ HB5.out).mono ?_
 rintro en w6 ⟨rfl, S1, o1, v6, L, st6, kp6, sp6, f6, hL6, spa6, hn6, hfr6, hg6⟩
 have hI6 : I w6 := HIo.out _ ((kp6.block _ (Or.inr ⟨by omega, by omega⟩)).trans (HB5.out.block _ hs4))
 have H6 := kq9 st6 kp6 sp6 f6 hL6 spa6 hn6 hfr6 hg6
 clear st6 kp6 sp6 f6 hL6 spa6 hn6 hfr6 hg6
 try go_simp
 refine hK.out _ _ (hI6) ?_
 clear hK K
 try simp only [pu]
 iterate 3
  refine' plan_take _ (by rfl) _ (by rfl) ?_ ?_
  rotate_left
  · rintro _ ⟨x, rfl⟩
    go_simp
    try with_reducible rfl
  try simp only [pu]
 refine pD fun K hK => ?_
 go_simp
 try go_simp
 refine hK.out _ _ (hI6) ?_
 clear hK K
 try simp only [pu]
 refine pD fun K hK => ?_
 go_simp
 try go_simp
 refine hK.out _ _ (hI6) ?_
 clear hK K
 try simp only [pu]
 refine plan_nil ?_
 have k6 : ∀ k, w.heap.size ≤ k → k < W4.heap.size → w6.heap[k]? = W4.heap[k]? := fun k h1 h2 => (H6.out.2.1.block k (Or.inr ⟨h1, h2⟩)).trans (HB5.out.block k h2)
 have p1 := (k6 w.heap.size (by omega) (by omega)).trans H4.out.2.1
 have p2 := (k6 (w.heap.size + 1) (by omega) (by omega)).trans H4.out.2.2.1
 have hyl := H0.out.1.yl
 have hs5 := HB5.out.size
 have hs6 := H6.out.2.1.size
 have kY : Keep Y w w6 := ((Keep.of_below H4.out.1 hyl).trans (Keep.of_below HB5.out fun k hk => by have := hyl k hk; omega)).trans (H6.out.2.1.mono fun k hk => Or.inl hk)
 have hL1 := H6.out.2.2.2.2.1
 obtain ⟨rr, hrr⟩ : ∃ rr, L = [] ++ [rr] := by
  cases L with
  | nil => simp at hL1
  | cons a l =>
   cases l with
   | nil => exact ⟨a, rfl⟩
   | cons b l => simp at hL1
 subst hrr
 obtain ⟨ws, hws1, hws2⟩ := H6.out.2.2.2.2.2.1.recs rr (by simp)
 have hrn := H6.out.2.2.2.2.2.2.1 rr (by simp)
 have hne1 : rr ≠ e.kh := fun q => by have := H0.out.2.2.1.blobs.k; rw [← q, hrn] at this; cases this
 have hne2 : rr ≠ e.vh := fun q => by have := H0.out.2.2.1.blobs.v; rw [← q, hrn] at this; cases this
 have hfr6 : ∀ z, z ≠ rr → reco S1 z = reco S z := fun z hz => H6.out.2.2.2.2.2.2.2.1 z (by simpa using hz)
 have hemp : Bt.Empty S1 o1 t := ⟨H6.out.2.2.2.1, H0.out.2.1.t1, H0.out.2.1.t2⟩
 have hfst : Bt.First S1 e := ⟨H0.out.2.2.1.blobs.frame (hfr6 _ (Ne.symm hne1)) (hfr6 _ (Ne.symm hne2)), H0.out.2.2.1.ne⟩
 obtain ⟨ok, hbl, htree, hfr7, hgr7⟩ := Bt.first_tree hemp hfst hws1 hws2 hne1 hne2
 have hA : ∀ (W : World) (b1 b2 : Nat), Below w6.heap.size w6 W → w6.heap.size ≤ b1 → w6.heap.size ≤ b2 → W.heap[b1]? = some (.cells #[.int .u64 e.kh] 83 (0, 0)) → W.heap[b2]? = some (.cells #[.int .u64 e.vh] 83 (0, 0)) →
  Calls Tryz.prog 331 #[.agg #[.slice (some ⟨b1, 0, none⟩) 1 1, .slice (some ⟨b2, 0, none⟩) 1 1, .slice none 0 0, .int .u64 1], PV (w5.heap.size + 1), PV w5.heap.size] W fun en w' => en = .returned (.int .u64 rr) ∧ ∃ v', StOn w' ps (putWords S1 rr 0 (bnWords t (Bt.bn (Bt.leafOf rr e)))) (fun k => (Y k ∨ (w.heap.size ≤ k ∧ k < W4.heap.size)) ∨ SpY w5.heap.size (w5.heap.size + 1) v6 k) ∧ Keep (fun k => ((Y k ∨ (w.heap.size ≤ k ∧ k < W4.heap.size)) ∨ SpY w5.heap.size (w5.heap.size + 1) v6 k) ∧ k ≠ w5.heap.size + 1) W w' ∧ SpOn w' w5.heap.size (w5.heap.size + 1) (w5.heap.size + 2) ps t v' [] ∧ v'.ownBlock = v6.ownBlock := by
  intro W b1 b2 hB g1 g2 e1 e2
  have hz7 : w5.heap.size + 2 ≤ w6.heap.size := by
   have h1 := (gl H6.out.2.2.1.box)
   omega
  have hro : ∀ (b k : Nat), W.heap[b]? = some (.cells #[.int .u64 k] 83 (0, 0)) → HRow W (.slice (some ⟨b, 0, none⟩) 1 1) [k] := fun b k hb => ⟨_, 1, rfl, fun i hi => ⟨b, 0, rfl, by
   have hi : i = 0 := by simp at hi; exact hi
   subst hi
   rw [cell_of_block hb]; rfl⟩⟩
  have hro2 : HRow W (.slice none 0 0) [] := ⟨none, 0, rfl, fun i hi => absurd hi (by simp)⟩
  have hlen : S1.len rr = (6 * t, 0) := by rw [look_len H6.out.2.2.2.1.tab hws1, hws2]
  have hob : ∀ {b n c : Nat}, w6.heap.size ≤ b → ∀ g, (Value.slice (some ⟨b, 0, none⟩) n c).ownBlock = some g → g ≠ w5.heap.size + 1 := fun hb g hg q => by
   have hg := Option.some.inj hg
   simp only at hg
   omega
  have htk := bt_take (n := Bt.bn (Bt.leafOf rr e)) (vk := .slice (some ⟨b1, 0, none⟩) 1 1) (vv := .slice (some ⟨b2, 0, none⟩) 1 1) (vc := .slice none 0 0) (H6.out.1.below hB) H6.out.2.2.2.1.inv (H6.out.2.2.1.keeps fun k hk => hB.block k (H6.out.1.yl k (Or.inr hk))) (Or.inr (Or.inr (Or.inl rfl))) (Or.inr (Or.inl rfl)) (fun b hb => Or.inr (Or.inr (Or.inr hb))) (by simp) (Bt.bnok_of H6.out.2.2.2.1 H0.out.2.1.t1 H0.out.2.1.t2 (fun k hk => by have hk : k ∈ ([] : List (Bt 0)) := hk; simp at hk) ok) (hro b1 _ e1) (hro b2 _ e2) hro2 (hob g1) (hob g2) (fun g hg => nomatch hg) (look_ok H6.out.2.2.2.1 hws1).2.1 hlen (bnWords_lt (t := t) hbl (by show 1 < _; omega))
  unfold bnV at htk
  exact htk
 have hFN : Bt.Tree (putWords S1 rr 0 (bnWords t (Bt.bn (Bt.leafOf rr e)))) o1 t (Bt.leafOf rr e) ∧ Bt.its (Bt.leafOf rr e) = [e] ∧ (∀ z ∈ Bt.nodes (Bt.leafOf rr e), reco S z = none) ∧ (∀ z, reco S z ≠ none → reco (putWords S1 rr 0 (bnWords t (Bt.bn (Bt.leafOf rr e)))) z = reco S z) ∧ Grew S (putWords S1 rr 0 (bnWords t (Bt.bn (Bt.leafOf rr e)))) 2 1 := by
  refine ⟨htree, Bt.its_leaf _, fun z hz => ?_, fun z hz => ?_, (H6.out.2.2.2.2.2.2.2.2.trans hgr7).mono (by omega) (by omega)⟩
  · have hz : z ∈ [rr] := hz
    rw [List.mem_singleton.1 hz]; exact hrn
  · have hzr : z ≠ rr := fun q => hz (q ▸ hrn)
    exact (hfr7 z hzr).trans (hfr6 z hzr)
 have HA := Lib.hid hA
 have HFN := Lib.hid hFN
 have hp2 := (gl p2)
 have HK := kq4 kY p2 p1 hyl
 obtain ⟨x0, x1⟩ := cells2 p1
 clear hL1 hws1 hws2 hrn hne1 hne2 hfr6 hemp hfst ok hbl htree hfr7 hgr7 hA hFN kY p1 p2 k6 hyl r0 r1 HND HMK HIo hI0 hI5 hI6
 go_wp2_with fail
 obtain ⟨I, hIi, hIo⟩ : ∃ I : World → Prop, (∀ w', I w' → w'.heap[w.heap.size]? = some (.cells #[.int .u64 e.kh, .int .u64 e.vh] 137 (0, 0)) ∧ w'.heap[w.heap.size + 1]? = some (.cells #[.int .u64 0, .int .u64 0] 137 (0, 0))) ∧ (∀ w', (w'.heap[w.heap.size]? = some (.cells #[.int .u64 e.kh, .int .u64 e.vh] 137 (0, 0)) ∧ w'.heap[w.heap.size + 1]? = some (.cells #[.int .u64 0, .int .u64 0] 137 (0, 0))) → I w') := ⟨fun w' => w'.heap[w.heap.size]? = some (.cells #[.int .u64 e.kh, .int .u64 e.vh] 137 (0, 0)) ∧ w'.heap[w.heap.size + 1]? = some (.cells #[.int .u64 0, .int .u64 0] 137 (0, 0)), fun _ h => h, fun _ h => h⟩
 have hz3 := fun x : Keeps I => (hIi _ x.ok).1
 have hz4' := fun x : Keeps I => (hIi _ x.ok).2
 obtain ⟨s0, s1⟩ := cellsX2 hz3
 obtain ⟨r0, r1⟩ := cellsX2 hz4'
 have hJ : ∀ W, Below w6.heap.size w6 W → I W := fun W hB => hIo _ ⟨(hB.block _ (by omega)).trans HK.out.2.2.1, (hB.block _ (by omega)).trans HK.out.2.1⟩
 have hI0 : I w6.drew := hJ _ (Below.refl _ w6).drew
 have hJ2 : ∀ W w', Below w6.heap.size w6 W → Keep (fun k => ((Y k ∨ (w.heap.size ≤ k ∧ k < W4.heap.size)) ∨ SpY w5.heap.size (w5.heap.size + 1) v6 k) ∧ k ≠ w5.heap.size + 1) W w' → I w' := fun W w' hB hk => by
  have h1 := hIi _ (hJ W hB)
  exact hIo _ ⟨(hk.block _ ⟨Or.inl (Or.inr ⟨by omega, by omega⟩), by omega⟩).trans h1.1, (hk.block _ ⟨Or.inl (Or.inr ⟨by omega, by omega⟩), by omega⟩).trans h1.2⟩
 have hJ3 : ∀ w', I w' → I ((w'.setCell ⟨w.heap.size + 1, 0, none⟩ (.int .u64 0)).setCell ⟨w.heap.size + 1, 1, none⟩ (.int .u64 0)) := fun w' hi => hIo _ ⟨((heap_setCell_ne (by omega)).trans (heap_setCell_ne (by omega))).trans (hIi _ hi).1, heap_setCell (i := 1) (v := .int .u64 0) (heap_setCell (i := 0) (v := .int .u64 0) (hIi _ hi).2)⟩
 have HJ := Lib.hid hJ
 have HJI := Lib.hid hIi
 clear hz3 hz4' hIi hIo x0 x1
 refine wp_region_plan I (.take 0 (.take 1 (.take 2 (.take 4 (.take 5 (.take 9 (.two 3 6 (.go 6 (.take 7 (.go 8 (.go 10 (.go 11 (.go 12 (.go 13 .nil))))))) (.go 3 (.take 7 (.go 8 (.go 10 (.go 11 (.go 12 (.go 13 .nil)))))))))))))) (by kernel_rfl) (by kernel_rfl) hI0 ?_
 iterate 6
  refine' plan_take _ (by rfl) _ (by rfl) ?_ ?_
  rotate_left
  · rintro _ ⟨x, rfl⟩
    have hxs0 := s0 x
    have hxs1 := s1 x
    have hxr0 := r0 x
    have hxr1 := r1 x
    go_simp
    try with_reducible rfl
  try simp only [pu]
 clear s0 s1 r0 r1
 refine plan_two ?_ ?_
 · have T4 := two_alloc w6 (.cells #[.int .u64 (e.kh : Nat)] 83) (.cells #[.int .u64 (e.vh : Nat)] 83)
   refine pD fun K hK => ?_
   go_simp
   try go_simp
   refine hK.out _ _ (HJ.out _ T4.1) ?_
   clear hK K
   try simp only [pu]
   refine pD fun K hK => ?_
   go_simp
   try go_simp
   refine hK.out _ _ (HJ.out _ T4.2.1) ?_
   clear hK K
   try simp only [pu]
   refine' plan_take _ (by rfl) _ (by rfl) ?_ ?_
   rotate_left
   · rintro _ ⟨x, rfl⟩
     go_simp
     try with_reducible rfl
   try simp only [pu]
   refine pD fun K hK => ?_
   go_simp
   refine (HA.out _ w6.heap.size (w6.heap.size + 1) T4.2.1 (by omega) (by omega) T4.2.2.1 T4.2.2.2).mono ?_
   rintro en w11 ⟨rfl, v11, st11, kp11, sp11, own11⟩
   have hI11 : I w11 := hJ2 _ _ T4.2.1 kp11
   have hold := (HJI.out _ hI11).2
   have kF : Keep Y w w11 := (HK.out.1.trans (Keep.of_below T4.2.1 fun k hk => by have := HK.out.2.2.2 k hk; omega)).trans (kp11.mono fun k hk => ⟨Or.inl (Or.inl hk), by have := HK.out.2.2.2 k hk; omega⟩)
   obtain ⟨x0, x1⟩ := cells2 hold
   obtain ⟨f0, f1⟩ := frees2 hold
   have H11 := kq3 hold st11 kF
   clear kp11 sp11 own11 hold st11 kF T4
   try go_simp
   refine hK.out _ _ (hI11) ?_
   clear hK K
   try simp only [pu]
   refine pD fun K hK => ?_
   go_simp
   try go_simp
   refine hK.out _ _ (hI11) ?_
   clear hK K
   try simp only [pu]
   refine pD fun K hK => ?_
   go_simp
   try go_simp
   refine hK.out _ _ (hJ3 _ hI11) ?_
   clear hK K
   try simp only [pu]
   refine pD fun K hK => ?_
   go_simp
   try go_simp
   refine hK.out _ _ (hJ3 _ hI11) ?_
   clear hK K
   try simp only [pu]
   refine pD fun K hK => ?_
   go_simp
   try go_simp
   refine hK.out _ _ (hJ3 _ hI11) ?_
   clear hK K
   try simp only [pu]
   refine plan_nil ?_
   go_wp2_with fail
   obtain ⟨WF, hWF⟩ : ∃ WF, ((w11.setCell ⟨w.heap.size + 1, 0, none⟩ (.int .u64 0)).setCell ⟨w.heap.size + 1, 1, none⟩ (.int .u64 0)) = WF := ⟨_, rfl⟩
   rw [hWF]
   have eF : WF.heap[w.heap.size + 1]? = some (.cells #[.int .u64 0, .int .u64 0] 137 (0, 0)) := by
    rw [← hWF]
    exact heap_setCell (i := 1) (v := .int .u64 0) (heap_setCell (i := 0) (v := .int .u64 0) H11.out.1)
   have stF : StOn WF ps (putWords S1 rr 0 (bnWords t (Bt.bn (Bt.leafOf rr e)))) Y := by
    rw [← hWF]
    exact (H11.out.2.1.write (b := w.heap.size + 1) (Or.inl (Or.inr ⟨by omega, by omega⟩)) H11.out.1 ⟨by decide, by decide⟩ (by simp) (by simp) fun k _ hk => (heap_setCell_ne hk).trans (heap_setCell_ne hk)).mono fun k hk => Or.inl (Or.inl hk)
   have kF : Keep Y w WF := by
    rw [← hWF]
    have hne : ∀ k, Y k → k ≠ w.heap.size + 1 := fun k hk => by have := HK.out.2.2.2 k hk; omega
    exact (H11.out.2.2.trans (Keep.mark hne)).trans (Keep.mark hne)
   clear hWF x0 x1 f0 f1
   obtain ⟨u0, u1⟩ := cells2 eF
   exact bodyPost_ret (v := .tuple #[.int .u64 (rr : Nat), .agg #[.int .u64 0, .int .u64 0], .bool false, .int .i64 0]) (by simp [results, Tryz.f316, go_sem, u0, u1]) rfl ⟨Bt.leafOf rr e, _, o1, rfl, stF, kF, HFN.out⟩
 · have T4 := two_alloc w6 (.cells #[.int .u64 (e.vh : Nat)] 83) (.cells #[.int .u64 (e.kh : Nat)] 83)
   refine pD fun K hK => ?_
   go_simp
   try go_simp
   refine hK.out _ _ (HJ.out _ T4.1) ?_
   clear hK K
   try simp only [pu]
   refine pD fun K hK => ?_
   go_simp
   try go_simp
   refine hK.out _ _ (HJ.out _ T4.2.1) ?_
   clear hK K
   try simp only [pu]
   refine' plan_take _ (by rfl) _ (by rfl) ?_ ?_
   rotate_left
   · rintro _ ⟨x, rfl⟩
     go_simp
     try with_reducible rfl
   try simp only [pu]
   refine pD fun K hK => ?_
   go_simp
   refine (HA.out _ (w6.heap.size + 1) w6.heap.size T4.2.1 (by omega) (by omega) T4.2.2.2 T4.2.2.1).mono ?_
   rintro en w11 ⟨rfl, v11, st11, kp11, sp11, own11⟩
   have hI11 : I w11 := hJ2 _ _ T4.2.1 kp11
   have hold := (HJI.out _ hI11).2
   have kF : Keep Y w w11 := (HK.out.1.trans (Keep.of_below T4.2.1 fun k hk => by have := HK.out.2.2.2 k hk; omega)).trans (kp11.mono fun k hk => ⟨Or.inl (Or.inl hk), by have := HK.out.2.2.2 k hk; omega⟩)
   obtain ⟨x0, x1⟩ := cells2 hold
   obtain ⟨f0, f1⟩ := frees2 hold
   have H11 := kq3 hold st11 kF
   clear kp11 sp11 own11 hold st11 kF T4
   try go_simp
   refine hK.out _ _ (hI11) ?_
   clear hK K
   try simp only [pu]
   refine pD fun K hK => ?_
   go_simp
   try go_simp
   refine hK.out _ _ (hI11) ?_
   clear hK K
   try simp only [pu]
   refine pD fun K hK => ?_
   go_simp
   try go_simp
   refine hK.out _ _ (hJ3 _ hI11) ?_
   clear hK K
   try simp only [pu]
   refine pD fun K hK => ?_
   go_simp
   try go_simp
   refine hK.out _ _ (hJ3 _ hI11) ?_
   clear hK K
   try simp only [pu]
   refine pD fun K hK => ?_
   go_simp
   try go_simp
   refine hK.out _ _ (hJ3 _ hI11) ?_
   clear hK K
   try simp only [pu]
   refine plan_nil ?_
   go_wp2_with fail
   obtain ⟨WF, hWF⟩ : ∃ WF, ((w11.setCell ⟨w.heap.size + 1, 0, none⟩ (.int .u64 0)).setCell ⟨w.heap.size + 1, 1, none⟩ (.int .u64 0)) = WF := ⟨_, rfl⟩
   rw [hWF]
   have eF : WF.heap[w.heap.size + 1]? = some (.cells #[.int .u64 0, .int .u64 0] 137 (0, 0)) := by
    rw [← hWF]
    exact heap_setCell (i := 1) (v := .int .u64 0) (heap_setCell (i := 0) (v := .int .u64 0) H11.out.1)
   have stF : StOn WF ps (putWords S1 rr 0 (bnWords t (Bt.bn (Bt.leafOf rr e)))) Y := by
    rw [← hWF]
    exact (H11.out.2.1.write (b := w.heap.size + 1) (Or.inl (Or.inr ⟨by omega, by omega⟩)) H11.out.1 ⟨by decide, by decide⟩ (by simp) (by simp) fun k _ hk => (heap_setCell_ne hk).trans (heap_setCell_ne hk)).mono fun k hk => Or.inl (Or.inl hk)
   have kF : Keep Y w WF := by
    rw [← hWF]
    have hne : ∀ k, Y k → k ≠ w.heap.size + 1 := fun k hk => by have := HK.out.2.2.2 k hk; omega
    exact (H11.out.2.2.trans (Keep.mark hne)).trans (Keep.mark hne)
   clear hWF x0 x1 f0 f1
   obtain ⟨u0, u1⟩ := cells2 eF
   exact bodyPost_ret (v := .tuple #[.int .u64 (rr : Nat), .agg #[.int .u64 0, .int .u64 0], .bool false, .int .i64 0]) (by simp [results, Tryz.f316, go_sem, u0, u1]) rfl ⟨Bt.leafOf rr e, _, o1, rfl, stF, kF, HFN.out⟩
end Go.Proofs.YtcibkdbpicledaaGreatDoor
namespace Go.Proofs.YtcibkdbpicledaaGreatDoor
open Go.RowKit Go.BigFrame Go.Maps Go.WideMaps Lf Tr
theorem lo_sumK {S : St} {o : Nat → Nat} {t d : Nat} {x : Bt (d + 2)} (h : Bt.Walk S o t x) {i : Nat} (hi : i ≤ (Bn.es x).length) : (Bt.lo ((Bn.es x).take i) (((Bn.ks x).map Bt.its).take i)).length = i + sumK x i := by
 have := Bt.Ok.kids h.ok
 rw [Bt.lo_length _ _ (by rw [List.length_take, List.length_take, List.length_map]; omega), List.length_take]
 unfold sumK
 rw [← List.map_take, List.map_map, Nat.min_eq_left hi]
 rfl
theorem Bt.Walk.at_kid {S : St} {o : Nat → Nat} {t d : Nat} {x : Bt (d + 2)} (h : Walk S o t x) {i m : Nat} (hi : i < (Bn.ks x).length) (hm : m < (its (Bn.ks x)[i]).length) : (its x)[i + sumK x i + m]? = (its (Bn.ks x)[i])[m]? := by
 have hk := Bt.Ok.kids h.ok
 rw [its_mk, weave_kid (k := i) (by omega) h.ok.rows, getD_its hi, List.getElem?_append_right (by rw [lo_sumK h (by omega)]; omega), lo_sumK h (by omega), Nat.add_sub_cancel_left, List.getElem?_append_left hm]
theorem Bt.Walk.at_here {S : St} {o : Nat → Nat} {t d : Nat} {x : Bt (d + 2)} (h : Walk S o t x) {i : Nat} (hi : i < (Bn.ks x).length) (he : i < (Bn.es x).length) : (its x)[i + sumK x i + (its (Bn.ks x)[i]).length]? = (Bn.es x)[i]? := by
 rw [its_mk, weave_kid (k := i) (by omega) h.ok.rows, getD_its hi, List.getElem?_append_right (by rw [lo_sumK h (by omega)]; omega), lo_sumK h (by omega), Nat.add_sub_cancel_left, List.getElem?_append_right (Nat.le_refl _), Nat.sub_self, hiR_lt he, List.getElem?_eq_getElem he]
 rfl
theorem btree_at {w : World} {ps : Nat} {S : St} {o : Nat → Nat} {Y : Nat → Prop} (h : StOn w ps S Y) {t d : Nat} {x : Bt (d + 1)} (hx : Bt.Walk S o t x) (hd : d < 40) {k : Nat} {e : It} (hke : (Bt.its x)[k]? = some e) :
 Calls Tryz.prog 314 #[PV ps, .int .i64 t, .int .u64 (Bt.hd x : Nat), .int .i64 k] w fun e' w' => e' = .returned (.tuple #[itV e.kh e.vh, .int .i64 0]) ∧ Below w.heap.size w w' := by
 have hkl : k < (Bt.its x).length := (List.getElem?_eq_some_iff.1 hke).1
 have B1 := (Below.refl w.heap.size w).alloc (Nat.le_refl _) (.cells #[.int .u64 0, .int .u64 0] 137)
 have B0 := B1.alloc (by simp) (.cells #[PV ps, .int .i64 t] 254)
 have z1 : (w.alloc (.cells #[.int .u64 0, .int .u64 0] 137)).heap.size = w.heap.size + 1 := by simp
 have q1 := heap_alloc_new w (.cells #[.int .u64 0, .int .u64 0] 137)
 have q3 := heap_alloc_new (w.alloc (.cells #[.int .u64 0, .int .u64 0] 137)) (.cells #[PV ps, .int .i64 t] 254)
 have q2 := (((Below.refl (w.alloc (.cells #[.int .u64 0, .int .u64 0] 137)).heap.size (w.alloc (.cells #[.int .u64 0, .int .u64 0] 137))).alloc (Nat.le_refl _) (.cells #[PV ps, .int .i64 t] 254)).block w.heap.size (by simp)).trans q1
 rw [z1] at q3
 have hz : w.heap.size + 2 ≤ ((w.alloc (.cells #[.int .u64 0, .int .u64 0] 137)).alloc (.cells #[PV ps, .int .i64 t] 254)).heap.size := by simp
 have hi := hx.fit.inv
 have has := bt_asked (h.below B1) hi hx.t1 hx.t2
 generalize hWa : w.alloc (.cells #[.int .u64 0, .int .u64 0] 137) = Wa at *
 generalize hW : Wa.alloc (.cells #[PV ps, .int .i64 t] 254) = W0 at *
 have hza : Wa.heap.size = w.heap.size + 1 := z1
 have hget := fun W (hw : Below W0.heap.size W0 W) {n : BN} {hh : Nat} (hb : BnAt S t hh n) => bt_get (h.below (B0.trans (hw.mono B0.size))) hi hb
 have hsize := fun W (hw : Below W0.heap.size W0 W) {n : BN} {hh : Nat} (hb : BnAt S t hh n) hz => bt_size (h.below (B0.trans (hw.mono B0.size))) hi hb hz
 have hs0 := hsize W0 (Below.refl _ _) hx.read hx.size.2
 have hs0 : Calls Tryz.prog 163 #[trB ps t, .int .u64 (Bt.hd x : Nat)] W0 fun e w' => e = .returned (.int .i64 ((Bt.its x).length : Nat)) ∧ Below W0.heap.size W0 w' := hs0
 obtain ⟨x0, x1⟩ := cells2 q3
 have HG := kq4 (And.intro B0 (And.intro q2 (And.intro q3 hz))) @hget @hsize has
 have HX := Lib.hid hx
 have hfew := hx.few
 obtain ⟨n0, hn0⟩ : ∃ n0, Bt.hd x = n0 := ⟨_, rfl⟩
 obtain ⟨L, hL⟩ : ∃ L, (Bt.its x).length = L := ⟨_, rfl⟩
 rw [hn0, hL] at hs0
 rw [hL] at hkl hfew
 have HR := kq2 hke hn0
 rw [hn0]
 unfold trB at hs0
 have H0 := Lib.hid hs0
 have hkL : ¬ ((L : Int) ≤ k) := by omega
 have hk0 : ((k : Int) < 0) = False := eq_false (by omega)
 have hkN : (L ≤ k) = False := eq_false (by omega)
 clear hget hsize h hx hi B0 B1 q1 q2 q3 z1 hz has hs0 hke hn0 hL
 go_enter Tryz.func314, Tryz.ntmps314
 go_wp2_with fail
 refine HG.out.2.2.2.mono ?_
 rintro e w1 ⟨rfl, rfl⟩
 go_wp2_with fail
 refine H0.out.mono ?_
 rintro e w1 ⟨rfl, hb1⟩
 have HB1 := Lib.hid hb1
 clear hb1 x0 x1
 go_wp2_with fail
 go_loopw [2, 3, 12, 13, 14, 15, 36] (fun s2 s3 _ _ _ _ s36 wr => ∃ (d' i kk hh : Nat), s2 = .int .u64 hh ∧ s3 = .int .i64 kk ∧ s36 = .int .i64 i ∧ i + d' < 40 ∧ kk ≤ 1000000 ∧ Hid (Below W0.heap.size W0 wr ∧ ∃ y : Bt (d' + 1), Bt.Walk S o t y ∧ Bt.hd y = hh ∧ (Bt.its y)[kk]? = some e)) (fun _ _ _ _ _ _ s36 _ => 40 - (intOf s36).toNat)
 case atStart => exact ⟨d, 0, k, n0, rfl, rfl, rfl, by omega, by omega, HB1.out, x, HX.out, HR.out.2, HR.out.1⟩
 case round =>
  obtain ⟨d', i, kk, hh, rfl, rfl, rfl, hid, hbl, I⟩ := hrel
  obtain ⟨hB, y, hy, hhy, hky⟩ := I.out
  have hlt : (i : Int) < 40 := by omega
  have t3 := (hB.block (w.heap.size + 1) (by have := HG.out.1.2.2.2; omega)).trans HG.out.1.2.2.1
  obtain ⟨x0, x1⟩ := cells2 t3
  have hget := HG.out.2.1 wr hB hy.read
  unfold trB bnV at hget
  rw [hhy] at hget
  have HY := kq3 hB hy hky
  clear hB hy hhy hky t3
  obtain ⟨n, hn⟩ : ∃ n, Bt.bn y = n := ⟨_, rfl⟩
  rw [hn] at hget
  have HGT := Lib.hid hget
  clear hget
  go_wp2_with fail
  refine HGT.out.mono ?_
  rintro e w1 ⟨vk, vv, vc, rfl, rows, hb⟩
  obtain ⟨Ak, ck, rfl⟩ := rows.k.slice2
  obtain ⟨Av, cv, rfl⟩ := rows.v.slice2
  obtain ⟨Ac, cc, rfl⟩ := rows.c.slice2
  have hkl : n.keys.length = (Bn.es y).length := by rw [← hn]; unfold Bt.bn; rw [List.length_map]
  have hvl : n.vals.length = (Bn.es y).length := by rw [← hn]; unfold Bt.bn; rw [List.length_map]
  have hcl : n.kids.length = (Bn.ks y).length := by rw [← hn]; unfold Bt.bn; rw [List.length_map]
  rw [hkl] at rows
  rw [hvl] at rows
  rw [hcl] at rows
  rw [hkl, hvl, hcl]
  generalize n.size = sz at *
  have hy := HY.out.2.1
  have es3 := hy.es.2.2
  generalize hlk : (Bn.es y).length = lk at *
  generalize hlc : (Bn.ks y).length = lc at *
  have A1 := (Below.refl w1.heap.size w1).alloc (Nat.le_refl _) (.cells #[.slice Ak lk ck, .slice Av lk cv, .slice Ac lc cc, .int .u64 sz] 286)
  have p1 := heap_alloc_new w1 (.cells #[.slice Ak lk ck, .slice Av lk cv, .slice Ac lc cc, .int .u64 sz] 286)
  have B1 := HY.out.1.trans ((hb.trans (A1.mono hb.size)).mono HY.out.1.size)
  have rows1 := rows.below A1
  have hlt1 : w1.heap.size < (w1.alloc (.cells #[.slice Ak lk ck, .slice Av lk cv, .slice Ac lc cc, .int .u64 sz] 286)).heap.size := by simp
  obtain ⟨W1, hW1⟩ : ∃ W1, w1.alloc (.cells #[.slice Ak lk ck, .slice Av lk cv, .slice Ac lc cc, .int .u64 sz] 286) = W1 := ⟨_, rfl⟩
  rw [hW1] at A1 p1 B1 rows1 hlt1
  have t3 := (B1.block (w.heap.size + 1) (by have := HG.out.1.2.2.2; omega)).trans HG.out.1.2.2.1
  have q6 := (B1.block w.heap.size (by have := HG.out.1.2.2.2; omega)).trans HG.out.1.2.1
  have hrk := rows1.k.hrow
  have hrv := rows1.v.hrow
  have hrc := rows1.c.hrow
  rw [← hn] at hrk hrv hrc
  have hrk : HRow W1 (.slice Ak lk ck) ((Bn.es y).map (·.kh)) := hrk
  have hrv : HRow W1 (.slice Av lk cv) ((Bn.es y).map (·.vh)) := hrv
  have hrc : HRow W1 (.slice Ac lc cc) ((Bn.ks y).map Bt.hd) := hrc
  have hwz := HY.out.1.size
  have hz2 := HG.out.1.2.2.2
  have gek : ∀ g o, Ak = some ⟨g, o, none⟩ → w.heap.size ≠ g := fun g o e => by subst e; have := rows1.k.ge g rfl; omega
  have gev : ∀ g o, Av = some ⟨g, o, none⟩ → w.heap.size ≠ g := fun g o e => by subst e; have := rows1.v.ge g rfl; omega
  have gec : ∀ g o, Ac = some ⟨g, o, none⟩ → w.heap.size ≠ g := fun g o e => by subst e; have := rows1.c.ge g rfl; omega
  have hne1 : w.heap.size ≠ w1.heap.size := by have := hb.size; omega
  have hne2 : w.heap.size + 1 < W1.heap.size := by have := B1.size; omega
  have H1 := kq6 B1 p1 (And.intro hrk (And.intro hrv hrc)) t3 hlt1 q6
  have HN := kq5 gek gev gec hne1 hne2
  have HK := kq2 hlk hlc
  clear gek gev gec hne1 hne2 hwz hz2 rows rows1 hb A1 p1 B1 t3 hrk hrv hrc HGT hkl hvl hcl hn hlt1 q6 hlk hlc hy x0 x1
  have HB2 := Lib.hid (Below.refl W1.heap.size W1)
  obtain ⟨su, hsu⟩ : ∃ su : Nat → Nat, sumK y = su := ⟨_, rfl⟩
  have hsu0 : su 0 = 0 := by rw [← hsu]; simp [sumK]
  have HSU := Lib.hid hsu
  clear hsu
  have p2 := H1.out.2.1
  obtain ⟨y0, y1, y2, y3⟩ := cells4 p2
  go_wp2_with fail
  clear y0 y1 y2 y3 p2 hW1
  go_loopw [3, 14, 15] (fun s3 s14 _ wr => ∃ j q : Nat, j ≤ lk ∧ s3 = .int .i64 q ∧ s14 = .int .i64 j ∧ j + su j + q = kk ∧ Hid (Below W1.heap.size W1 wr)) (fun _ s14 _ _ => lk - (intOf s14).toNat)
  case atStart => exact ⟨0, kk, by omega, rfl, rfl, by rw [hsu0]; omega, HB2⟩
  case round =>
   obtain ⟨j, q, hjl, rfl, rfl, hjq, HBr⟩ := hrel
   have p2 := (HBr.out.block w1.heap.size H1.out.2.2.2.2.1).trans H1.out.2.1
   have t2 := (HBr.out.block (w.heap.size + 1) HN.out.2.2.2.2).trans H1.out.2.2.2.1
   have q2 := (HBr.out.block w.heap.size (by have := HN.out.2.2.2.2; omega)).trans H1.out.2.2.2.2.2
   obtain ⟨x0, x1⟩ := cells2 t2
   obtain ⟨y0, y1, y2, y3⟩ := cells4 p2
   obtain ⟨z0, z1⟩ := cells2 q2
   obtain ⟨f0, f1⟩ := frees2 q2
   have HQ := Lib.hid q2
   clear p2 t2 q2
   cases d' with
   | zero =>
    have hc0 : lc = 0 := by rw [← HK.out.2, Bt.nil_of_zero (Bn.ks y)]; rfl
    subst hc0
    have hsj : su j = 0 := by rw [← HSU.out]; unfold sumK; rw [Bt.nil_of_zero (Bn.ks y)]; simp
    have hky := HY.out.2.2
    rw [Bt.its_leaf] at hky
    have hkn := (List.getElem?_eq_some_iff.1 hky).1
    rw [HK.out.1] at hkn
    have hjlt : j < lk := by omega
    have hjlt2 : (j : Int) < lk := by omega
    by_cases hq0 : q = 0
    · subst hq0
      have hkj : kk = j := by omega
      rw [hkj] at hky
      obtain ⟨gk, ok, rfl, hck⟩ := HRow.at (f := fun d : It => d.kh) (l := Bn.es y) H1.out.2.2.1.1 hky
      obtain ⟨gv, ov, rfl, hcv⟩ := HRow.at (f := fun d : It => d.vh) (l := Bn.es y) H1.out.2.2.1.2.1 hky
      have dk := (HBr.out.cell (p := ⟨gk, ok + j, none⟩) (hcell_lt hck)).trans hck
      have dv := (HBr.out.cell (p := ⟨gv, ov + j, none⟩) (hcell_lt hcv)).trans hcv
      clear hck hcv hky hkn hkj hjq
      go_wp2_with fail
      go_region
      go_wp2_with fail
      have BW : Below w.heap.size w wr := HG.out.1.1.trans ((H1.out.1.trans (HBr.out.mono H1.out.1.size)).mono HG.out.1.1.size)
      have eW := st2_heap HQ.out (.int .u64 (e.kh : Nat)) (.int .u64 (e.vh : Nat))
      have BF := st2_below BW (b := w.heap.size) (by omega) (.int .u64 (e.kh : Nat)) (.int .u64 (e.vh : Nat))
      generalize ((wr.setCell ⟨w.heap.size, 0, none⟩ (.int .u64 (e.kh : Nat))).setCell ⟨w.heap.size, 1, none⟩ (.int .u64 (e.vh : Nat))) = WF at *
      have eW : WF.drew.heap[w.heap.size]? = _ := eW
      obtain ⟨e0, e1⟩ := cells2 eW
      exact bodyPost_ret (v := .tuple #[.agg #[.int .u64 (e.kh : Nat), .int .u64 (e.vh : Nat)], .int .i64 0]) (by simp [results, Tryz.f314, go_sem, e0, e1]) rfl ⟨rfl, BF.drew⟩
    · have hq1 : ¬ ((q : Int) ≤ 0) := by omega
      have hw1 : IntKind.i64.wrap ((q : Int) - 1) = (q : Int) - 1 := IntWalk.i64_in _ (by omega)
      have hsj1 : su (j + 1) = 0 := by rw [← HSU.out]; unfold sumK; rw [Bt.nil_of_zero (Bn.ks y)]; simp
      clear hky
      go_wp2_with fail
      go_roundw
      case rel => exact ⟨j + 1, q - 1, by omega, by congr 1; omega, by simp, by omega, HBr⟩
      case measure => simp [intOf]; omega
   | succ d' =>
    have hy := HY.out.2.1
    have hkids := Bt.Ok.kids hy.ok
    rw [HK.out.1, HK.out.2] at hkids
    have hlc0 : (0 : Int) < lc := by omega
    have hjc : j < (Bn.ks y).length := by rw [HK.out.2]; omega
    have hjc2 : (j : Int) < lc := by omega
    have hee : (Bn.ks y)[j]? = some (Bn.ks y)[j] := List.getElem?_eq_getElem hjc
    obtain ⟨gc, oc, rfl, hcc⟩ := HRow.at (f := Bt.hd) (l := Bn.ks y) H1.out.2.2.1.2.2 hee
    have hkj0 := hy.kid (List.getElem_mem hjc)
    have hsj := fun W (hW : Below W1.heap.size W1 W) => HG.out.2.2.1 W (H1.out.1.trans (hW.mono H1.out.1.size)) hkj0.read hkj0.size.2
    have hsj : ∀ W, Below W1.heap.size W1 W → Calls Tryz.prog 163 #[trB ps t, .int .u64 (Bt.hd (Bn.ks y)[j] : Nat)] W fun e w' => e = .returned (.int .i64 ((Bt.its (Bn.ks y)[j]).length : Nat)) ∧ Below W.heap.size W w' := hsj
    unfold trB at hsj
    have hat := fun m => hy.at_kid (m := m) hjc
    have hah := fun h => hy.at_here hjc h
    have hss := sumK_succ hjc
    have hsl := sumK_le hy j
    have hfw := hkj0.few
    rw [HSU.out] at hat hah hss hsl
    obtain ⟨kj, hkj⟩ : ∃ kj, (Bn.ks y)[j] = kj := ⟨_, rfl⟩
    rw [hkj] at hsj hat hah hss hcc hkj0 hfw
    obtain ⟨nj, hnj⟩ : ∃ nj, Bt.hd kj = nj := ⟨_, rfl⟩
    obtain ⟨zj, hzj⟩ : ∃ zj, (Bt.its kj).length = zj := ⟨_, rfl⟩
    rw [hnj] at hsj hcc
    rw [hzj] at hsj hat hah hss hfw
    have dc := (HBr.out.cell (p := ⟨gc, oc + j, none⟩) (hcell_lt hcc)).trans hcc
    have hgc := HN.out.2.2.1 gc oc rfl
    have HJ := kq8 hat hah hss hkj0 hnj hzj hsl hfw
    have HS := Lib.hid hsj
    have HJC := Lib.hid hcc
    have hke := HY.out.2.2
    rw [← hjq] at hke
    have HE := Lib.hid hke
    obtain ⟨I, hIi, hIo⟩ := but_class W1 w.heap.size
    have hz1 := fun x : Keeps I => (hIi _ x.ok w1.heap.size H1.out.2.2.2.2.1 (Ne.symm HN.out.2.2.2.1)).trans H1.out.2.1
    have hz2 := fun x : Keeps I => (hIi _ x.ok (w.heap.size + 1) HN.out.2.2.2.2 (by omega)).trans H1.out.2.2.2.1
    obtain ⟨m0, m1, m2, m3⟩ := cellsX4 hz1
    obtain ⟨n0, n1⟩ := cellsX2 hz2
    have o0 : ∀ x : Keeps I, x.to.cell? ⟨gc, oc + j, none⟩ = some (.int .u64 nj) := fun x => (cell_of_same (hIi _ x.ok gc (hcell_lt hcc) (Ne.symm hgc))).trans hcc
    have hI0 : I wr.drew := hIo _ fun k hk _ => HBr.out.block k hk
    have HI := Lib.hid hIo
    have HKI := Lib.hid hkids
    clear hIo hz1 hz2 hee hsj hcc hgc hat hah hss hkj0 hnj hzj hkj hke hy hsl hkids
    by_cases hjlt : j < lk
    · have hjlt2 : (j : Int) < lk := by omega
      go_wp2_with fail
      refine wp_region_plan I (.take 0 (.take 1 (.take 2 (.take 3 (.take 4 (.take 5 (.go 6 (.take 7 .nil)))))))) (by kernel_rfl) (by kernel_rfl) hI0 ?_
      iterate 6
       refine' plan_take _ (by rfl) _ (by rfl) ?_ ?_
       rotate_left
       · rintro _ ⟨x, rfl⟩
         have hxm0 := m0 x
         have hxm1 := m1 x
         have hxm2 := m2 x
         have hxm3 := m3 x
         have hxn0 := n0 x
         have hxn1 := n1 x
         have hxo0 := o0 x
         go_simp
         try with_reducible rfl
       try simp only [pu]
      refine pD fun K hK => ?_
      go_simp
      refine (HS.out wr.drew HBr.out.drew).mono ?_
      rintro e' w3 ⟨rfl, hb3⟩
      have B3 := HBr.out.drew.trans (hb3.mono HBr.out.size)
      have q3 := (hb3.block w.heap.size (gl HQ.out)).trans HQ.out
      have HB3 := kq2 B3 q3
      try go_simp
      refine hK.out _ _ (HI.out _ fun k hk _ => HB3.out.1.block k hk) ?_
      clear hK K
      try simp only [pu]
      clear B3 hb3 q3
      refine' plan_take _ (by rfl) _ (by rfl) ?_ ?_
      rotate_left
      · rintro _ ⟨x, rfl⟩
        go_simp
        try with_reducible rfl
      try simp only [pu]
      refine plan_nil ?_
      clear m0 m1 m2 m3 n0 n1 o0 hIi HI I hI0 x0 x1 y0 y1 y2 y3 z0 z1 f0 f1 dc
      have p2 := (HB3.out.1.block w1.heap.size H1.out.2.2.2.2.1).trans H1.out.2.1
      have q2 := HB3.out.2
      obtain ⟨y0, y1, y2, y3⟩ := cells4 p2
      obtain ⟨z0, z1⟩ := cells2 q2
      obtain ⟨f0, f1⟩ := frees2 q2
      have dc := (HB3.out.1.cell (p := ⟨gc, oc + j, none⟩) (hcell_lt (HJC.out))).trans HJC.out
      clear p2 q2
      rcases Nat.lt_trichotomy q zj with hq | hq | hq
      · have g1 : (q : Int) ≤ zj := by omega
        have g2 : ((q : Int) == zj) = false := by simp; omega
        have g3 : ¬ (q : Int) = zj := by omega
        go_wp2_with fail
        go_roundw
        case rel => exact ⟨d', i + 1, q, nj, rfl, rfl, by simp, by omega, by have := HJ.out.2.2.2.2.2.2.2; omega, H1.out.1.trans (HB3.out.1.mono H1.out.1.size), kj, HJ.out.2.2.2.1, HJ.out.2.2.2.2.1, by rw [← HJ.out.1 q hq]; exact HE.out⟩
        case measure => simp [intOf]; omega
      · subst hq
        have hke := HE.out
        rw [HJ.out.2.1 (by rw [HK.out.1]; exact hjlt)] at hke
        obtain ⟨gk, ok, rfl, hck⟩ := HRow.at (f := fun d : It => d.kh) (l := Bn.es y) H1.out.2.2.1.1 hke
        obtain ⟨gv, ov, rfl, hcv⟩ := HRow.at (f := fun d : It => d.vh) (l := Bn.es y) H1.out.2.2.1.2.1 hke
        have dk := (HB3.out.1.cell (p := ⟨gk, ok + j, none⟩) (hcell_lt hck)).trans hck
        have dv := (HB3.out.1.cell (p := ⟨gv, ov + j, none⟩) (hcell_lt hcv)).trans hcv
        clear hck hcv hke
        go_wp2_with fail
        go_region
        go_wp2_with fail
        have BW : Below w.heap.size w w3 := HG.out.1.1.trans ((H1.out.1.trans (HB3.out.1.mono H1.out.1.size)).mono HG.out.1.1.size)
        have eW := st2_heap HB3.out.2 (.int .u64 (e.kh : Nat)) (.int .u64 (e.vh : Nat))
        have BF := st2_below BW (b := w.heap.size) (by omega) (.int .u64 (e.kh : Nat)) (.int .u64 (e.vh : Nat))
        generalize ((w3.setCell ⟨w.heap.size, 0, none⟩ (.int .u64 (e.kh : Nat))).setCell ⟨w.heap.size, 1, none⟩ (.int .u64 (e.vh : Nat))) = WF at *
        have eW : WF.drew.heap[w.heap.size]? = _ := eW
        obtain ⟨e0, e1⟩ := cells2 eW
        exact bodyPost_ret (v := .tuple #[.agg #[.int .u64 (e.kh : Nat), .int .u64 (e.vh : Nat)], .int .i64 0]) (by simp [results, Tryz.f314, go_sem, e0, e1]) rfl ⟨rfl, BF.drew⟩
      · have g1 : ¬ (q : Int) ≤ zj := by omega
        have g4 : IntKind.i64.wrap ((zj : Int) + 1) = (zj : Int) + 1 := IntWalk.i64_in _ (by have := HJ.out.2.2.2.2.2.2.2; omega)
        have g5 : IntKind.i64.wrap ((q : Int) - ((zj : Int) + 1)) = (q : Int) - ((zj : Int) + 1) := IntWalk.i64_in _ (by omega)
        go_wp2_with fail
        go_roundw
        case rel => exact ⟨j + 1, q - (zj + 1), by omega, by congr 1; omega, by simp, by have := HJ.out.2.2.1; omega, Lib.hid HB3.out.1⟩
        case measure => simp [intOf]; omega
    · have hjlt2 : ¬ (j : Int) < lk := by omega
      have hjl2 : j = lk := by omega
      have hkkl := (List.getElem?_eq_some_iff.1 HE.out).1
      have hil := Bt.its_length HY.out.2.1.ok.okN
      have hall : su lc = ((Bn.ks y).map fun k => (Bt.its k).length).sum := by rw [← HSU.out]; unfold sumK; rw [List.take_of_length_le (by rw [HK.out.2]; exact Nat.le_refl _)]
      rw [← hall, HK.out.1, HKI.out] at hil
      have hq : q < zj := by have := HJ.out.2.2.1; subst hjl2; omega
      have HQZ := Lib.hid hq
      clear hil hall hkkl hq hjl2
      go_wp2_with fail
      go_roundw
      case rel => exact ⟨d', i + 1, q, nj, rfl, rfl, by simp, by omega, by have := HJ.out.2.2.2.2.2.2.2; have := HQZ.out; omega, H1.out.1.trans (HBr.out.mono H1.out.1.size), kj, HJ.out.2.2.2.1, HJ.out.2.2.2.2.1, by rw [← HJ.out.1 q HQZ.out]; exact HE.out⟩
      case measure => simp [intOf]; omega
def manyV (ps t : Nat) : Value := .agg #[PV ps, .int .i64 t]
theorem methM_size (f : Nat) (v : Value) (w : World) : (method (f + 1) 187 v "loft/backend.size").run Tryz.prog w = .ok (313, v) w := by kernel_rfl
theorem enterM_size (args : Array Value) (w : World) : (callFunc 313 args).run Tryz.prog w = .ok (.enter 313 args) w := by kernel_rfl
theorem methM_rank (f : Nat) (v : Value) (w : World) : (method (f + 1) 187 v "loft/backend.rank").run Tryz.prog w = .ok (311, v) w := by kernel_rfl
theorem enterM_rank (args : Array Value) (w : World) : (callFunc 311 args).run Tryz.prog w = .ok (.enter 311 args) w := by kernel_rfl
theorem methM_at (f : Nat) (v : Value) (w : World) : (method (f + 1) 187 v "loft/backend.at").run Tryz.prog w = .ok (308, v) w := by kernel_rfl
theorem enterM_at (args : Array Value) (w : World) : (callFunc 308 args).run Tryz.prog w = .ok (.enter 308 args) w := by kernel_rfl
theorem methM_find (f : Nat) (v : Value) (w : World) : (method (f + 1) 187 v "loft/backend.find").run Tryz.prog w = .ok (309, v) w := by kernel_rfl
theorem enterM_find (args : Array Value) (w : World) : (callFunc 309 args).run Tryz.prog w = .ok (.enter 309 args) w := by kernel_rfl
theorem methM_insert (f : Nat) (v : Value) (w : World) : (method (f + 1) 187 v "loft/backend.insert").run Tryz.prog w = .ok (310, v) w := by kernel_rfl
theorem enterM_insert (args : Array Value) (w : World) : (callFunc 310 args).run Tryz.prog w = .ok (.enter 310 args) w := by kernel_rfl
theorem many_size {w : World} {ps t hh z : Nat} (hs : ∀ W, Below w.heap.size w W → Calls Tryz.prog 319 #[PV ps, .int .i64 t, .int .u64 hh] W fun e w' => e = .returned (.int .i64 z) ∧ Below W.heap.size W w') :
 Calls Tryz.prog 313 #[manyV ps t, .int .u64 hh] w fun e w' => e = .returned (.int .i64 z) ∧ Below w.heap.size w w' := by
 have B0 := (Below.refl w.heap.size w).alloc (Nat.le_refl _) (.cells #[PV ps, .int .i64 t] 187)
 have hs := hs _ B0
 have HG := kq2 hs B0
 clear hs B0
 simp only [manyV]
 go_enter Tryz.func313, Tryz.ntmps313
 go_wp2_with fail
 refine HG.out.1.mono ?_
 rintro e w1 ⟨rfl, hb1⟩
 have H1 := Lib.hid (HG.out.2.trans (hb1.mono HG.out.2.size))
 clear hb1
 go_wp2_with fail
 go_ret
 exact ⟨rfl, H1.out⟩
theorem many_rank {w : World} {ps t hh z : Nat} (k : List UInt8) (hs : ∀ W, Below w.heap.size w W → Calls Tryz.prog 317 #[PV ps, .int .i64 t, .int .u64 hh, SV k] W fun e w' => e = .returned (.int .i64 z) ∧ Below W.heap.size W w') :
 Calls Tryz.prog 311 #[manyV ps t, .int .u64 hh, SV k] w fun e w' => e = .returned (.int .i64 z) ∧ Below w.heap.size w w' := by
 have B0 := (Below.refl w.heap.size w).alloc (Nat.le_refl _) (.cells #[PV ps, .int .i64 t] 187)
 have hs := hs _ B0
 have HG := kq2 hs B0
 clear hs B0
 simp only [manyV]
 go_enter Tryz.func311, Tryz.ntmps311
 go_wp2_with fail
 refine HG.out.1.mono ?_
 rintro e w1 ⟨rfl, hb1⟩
 have H1 := Lib.hid (HG.out.2.trans (hb1.mono HG.out.2.size))
 clear hb1
 go_wp2_with fail
 go_ret
 exact ⟨rfl, H1.out⟩
theorem many_find {w : World} {ps t hh : Nat} (k : List UInt8) (k0 k1 : Nat) (z : Bool) (hs : ∀ W, Below w.heap.size w W → Calls Tryz.prog 315 #[PV ps, .int .i64 t, .int .u64 hh, SV k] W fun e w' => e = .returned (.tuple #[itV k0 k1, .bool z]) ∧ Below W.heap.size W w') :
 Calls Tryz.prog 309 #[manyV ps t, .int .u64 hh, SV k] w fun e w' => e = .returned (.tuple #[itV k0 k1, .bool z]) ∧ Below w.heap.size w w' := by
 have B1 := (Below.refl w.heap.size w).alloc (Nat.le_refl _) (.cells #[PV ps, .int .i64 t] 187)
 have B0 := B1.alloc B1.size (.cells #[.int .u64 0, .int .u64 0] 137)
 have z1 := heap_alloc_new (w.alloc (.cells #[PV ps, .int .i64 t] 187)) (.cells #[.int .u64 0, .int .u64 0] 137)
 simp only [World.size_alloc] at z1
 have ha := hs _ B0
 simp only [itV, manyV] at ha ⊢
 have HG := kq3 ha B0 z1
 clear ha B0 B1 hs z1
 go_enter Tryz.func309, Tryz.ntmps309
 go_wp2_with fail
 refine HG.out.1.mono ?_
 rintro e w2 ⟨rfl, hb2⟩
 have z2 := (hb2.block (w.heap.size + 1) (by simp)).trans HG.out.2.2
 obtain ⟨d0, d1⟩ := cells2 z2
 obtain ⟨f0, f1⟩ := frees2 z2
 have HW := kq2 (HG.out.2.1.trans (hb2.mono HG.out.2.1.size)) z2
 clear hb2 z2
 go_wp2_with fail
 have q3 := st2_heap HW.out.2 (.int .u64 k0) (.int .u64 k1)
 have B3 := st2_below HW.out.1 (Nat.le_succ w.heap.size) (.int .u64 k0) (.int .u64 k1)
 generalize ((w2.setCell ⟨(w.heap.size + 1), 0, none⟩ (.int .u64 k0)).setCell ⟨(w.heap.size + 1), 1, none⟩ (.int .u64 k1)) = W3 at *
 obtain ⟨e0, e1⟩ := cells2 q3
 exact bodyPost_ret (v := .tuple #[.agg #[.int .u64 k0, .int .u64 k1], .bool z]) (by simp [results, Tryz.f309, go_sem, e0, e1]) rfl ⟨rfl, B3⟩
theorem many_at {w : World} {ps t hh : Nat} (k : Int) (k0 k1 : Nat) (z : Nat) (hs : ∀ W, Below w.heap.size w W → Calls Tryz.prog 314 #[PV ps, .int .i64 t, .int .u64 hh, .int .i64 k] W fun e w' => e = .returned (.tuple #[itV k0 k1, .int .i64 z]) ∧ Below W.heap.size W w') :
 Calls Tryz.prog 308 #[manyV ps t, .int .u64 hh, .int .i64 k] w fun e w' => e = .returned (.tuple #[itV k0 k1, .int .i64 z]) ∧ Below w.heap.size w w' := by
 have B1 := (Below.refl w.heap.size w).alloc (Nat.le_refl _) (.cells #[PV ps, .int .i64 t] 187)
 have B0 := B1.alloc B1.size (.cells #[.int .u64 0, .int .u64 0] 137)
 have z1 := heap_alloc_new (w.alloc (.cells #[PV ps, .int .i64 t] 187)) (.cells #[.int .u64 0, .int .u64 0] 137)
 simp only [World.size_alloc] at z1
 have ha := hs _ B0
 simp only [itV, manyV] at ha ⊢
 have HG := kq3 ha B0 z1
 clear ha B0 B1 hs z1
 go_enter Tryz.func308, Tryz.ntmps308
 go_wp2_with fail
 refine HG.out.1.mono ?_
 rintro e w2 ⟨rfl, hb2⟩
 have z2 := (hb2.block (w.heap.size + 1) (by simp)).trans HG.out.2.2
 obtain ⟨d0, d1⟩ := cells2 z2
 obtain ⟨f0, f1⟩ := frees2 z2
 have HW := kq2 (HG.out.2.1.trans (hb2.mono HG.out.2.1.size)) z2
 clear hb2 z2
 go_wp2_with fail
 have q3 := st2_heap HW.out.2 (.int .u64 k0) (.int .u64 k1)
 have B3 := st2_below HW.out.1 (Nat.le_succ w.heap.size) (.int .u64 k0) (.int .u64 k1)
 generalize ((w2.setCell ⟨(w.heap.size + 1), 0, none⟩ (.int .u64 k0)).setCell ⟨(w.heap.size + 1), 1, none⟩ (.int .u64 k1)) = W3 at *
 obtain ⟨e0, e1⟩ := cells2 q3
 exact bodyPost_ret (v := .tuple #[.agg #[.int .u64 k0, .int .u64 k1], .int .i64 z]) (by simp [results, Tryz.f308, go_sem, e0, e1]) rfl ⟨rfl, B3⟩
theorem many_insert {w : World} {ps t hh p q : Nat} {S : St} {Y : Nat → Prop} (h : StOn w ps S Y) (was : Bool) {R : Nat → Nat → Nat → St → Prop} (hs : ∀ W Z, StOn W ps S Z → Calls Tryz.prog 316 #[PV ps, .int .i64 t, .int .u64 hh, itV p q] W fun e w' => ∃ (x ik iv : Nat) (S' : St), e = .returned (.tuple #[.int .u64 x, itV ik iv, .bool was, .int .i64 0]) ∧ StOn w' ps S' Z ∧ Keep Z W w' ∧ R x ik iv S') :
 Calls Tryz.prog 310 #[manyV ps t, .int .u64 hh, itV p q] w fun e w' => ∃ (x ik iv : Nat) (S' : St), e = .returned (.tuple #[.int .u64 x, itV ik iv, .bool was, .int .i64 0]) ∧ StOn w' ps S' Y ∧ Keep Y w w' ∧ R x ik iv S' := by
 simp only [itV, manyV] at hs ⊢
 have B1 := (Below.refl w.heap.size w).alloc (Nat.le_refl _) (.cells #[PV ps, .int .i64 t] 187)
 have B2 := B1.alloc B1.size (.cells #[.int .u64 p, .int .u64 q] 137)
 have B3 := B2.alloc B2.size (.cells #[.int .u64 0, .int .u64 0] 137)
 have y3 := heap_alloc_new ((w.alloc (.cells #[PV ps, .int .i64 t] 187)).alloc (.cells #[.int .u64 p, .int .u64 q] 137)) (.cells #[.int .u64 0, .int .u64 0] 137)
 have z2 : ((w.alloc (.cells #[PV ps, .int .i64 t] 187)).alloc (.cells #[.int .u64 p, .int .u64 q] 137)).heap.size = w.heap.size + 2 := by simp
 have z3 : (((w.alloc (.cells #[PV ps, .int .i64 t] 187)).alloc (.cells #[.int .u64 p, .int .u64 q] 137)).alloc (.cells #[.int .u64 0, .int .u64 0] 137)).heap.size = w.heap.size + 3 := by simp
 rw [z2] at y3
 have hY := h.yl
 have hw := hs _ _ (h.wide B3)
 rw [z3] at hw
 have HG := kq4 hw (Keep.of_below B3 hY) y3 hY
 clear hw h y3 B1 B2 B3 hY hs z2 z3
 go_enter Tryz.func310, Tryz.ntmps310
 go_wp2_with fail
 refine HG.out.1.mono ?_
 rintro e w6 ⟨x, ik, iv, S', rfl, h6, k6, r6⟩
 have y6 := (k6.block (w.heap.size + 2) (Or.inr ⟨by omega, by omega⟩)).trans HG.out.2.2.1
 obtain ⟨e0, e1⟩ := cells2 y6
 obtain ⟨f0, f1⟩ := frees2 y6
 have H6 := kq4 h6 (HG.out.2.1.trans (k6.mono fun k hk => Or.inl hk)) y6 r6
 clear h6 k6 y6 r6
 go_wp2_with fail
 have q7 : ((w6.setCell ⟨(w.heap.size + 2), 0, none⟩ (.int .u64 ik)).setCell ⟨(w.heap.size + 2), 1, none⟩ (.int .u64 iv)).heap[w.heap.size + 2]? = _ := st2_heap H6.out.2.2.1 (.int .u64 ik) (.int .u64 iv)
 have o7 : ∀ k, k ≠ w.heap.size + 2 → ((w6.setCell ⟨(w.heap.size + 2), 0, none⟩ (.int .u64 ik)).setCell ⟨(w.heap.size + 2), 1, none⟩ (.int .u64 iv)).heap[k]? = w6.heap[k]? := fun k hk => st2_other hk _ _
 have s7 : StOn ((w6.setCell ⟨(w.heap.size + 2), 0, none⟩ (.int .u64 ik)).setCell ⟨(w.heap.size + 2), 1, none⟩ (.int .u64 iv)) ps S' Y := (H6.out.1.write (b := w.heap.size + 2) (Or.inr ⟨by omega, by omega⟩) H6.out.2.2.1 ⟨by decide, by decide⟩ (by simp) (by simp) fun k _ hk => o7 k hk).mono fun k hk => Or.inl hk
 have k7 : Keep Y w ((w6.setCell ⟨(w.heap.size + 2), 0, none⟩ (.int .u64 ik)).setCell ⟨(w.heap.size + 2), 1, none⟩ (.int .u64 iv)) := H6.out.2.1.trans ⟨rfl, rfl, rfl, by simp, fun k hk => o7 k (by have := HG.out.2.2.2 k hk; omega)⟩
 clear e0 e1 f0 f1 o7
 generalize ((w6.setCell ⟨(w.heap.size + 2), 0, none⟩ (.int .u64 ik)).setCell ⟨(w.heap.size + 2), 1, none⟩ (.int .u64 iv)) = W7 at *
 obtain ⟨e0, e1⟩ := cells2 q7
 exact bodyPost_ret (v := .tuple #[.int .u64 x, .agg #[.int .u64 ik, .int .u64 iv], .bool was, .int .i64 0]) (by simp [results, Tryz.f310, go_sem, e0, e1]) rfl ⟨x, ik, iv, S', rfl, s7, k7, H6.out.2.2.2⟩
end Go.Proofs.YtcibkdbpicledaaGreatDoor
namespace Go.Proofs.YtcibkdbpicledaaGreatDoor
open Lf Tr
namespace Bt
theorem two_fit {S : St} {o : Nat → Nat} (hf : Fit S o) {a b : List UInt8} (ha : a.length ≤ 1000) (hb : b.length ≤ 1000) (hr : Space S 6 2) :
 ∃ ka vb S2 o2, itemsM S a b = some ((ka, vb), S2) ∧ ItemsOk S a b ∧ Fit S2 o2 ∧ reco S ka = none ∧ reco S vb = none ∧ ka ≠ vb ∧ reco S2 ka = some (wordsOf a) ∧ reco S2 vb = some (wordsOf b) ∧ (∀ h', h' ≠ ka → h' ≠ vb → reco S2 h' = reco S h') ∧ Grew S S2 6 2 := by
 obtain ⟨ka, S1, o1, e1, f1, n1, l1, q1, g1, k1⟩ := putBlob_fit hf ha (hr.mono (by omega) (by omega))
 obtain ⟨vb, S2, o2, e2, f2, n2, l2, q2, g2, k2⟩ := putBlob_fit f1 hb (Space.grew (hr.mono (p' := 3 + 3) (q' := 1 + 1) (by omega) (by omega)) g1)
 have hne : ka ≠ vb := by rintro rfl; rw [l1] at n2; cases n2
 have hit : itemsM S a b = some ((ka, vb), S2) := by
  unfold itemsM
  rw [e1]
  simp only
  rw [e2]
  simp
 exact ⟨ka, vb, S2, o2, hit, ⟨ha, hb, k1, by rw [e1]; exact k2⟩, f2, n1, (q1 _ hne.symm).symm.trans n2, hne, (q2 _ hne).trans l1, l2, fun h' w1 w2 => (q2 h' w2).trans (q1 h' w1), (g1.trans g2).mono (by omega) (by omega)⟩
def getL (L : List (List UInt8 × List UInt8)) (a : List UInt8) : Option (List UInt8) := (L.find? fun p => p.1 == a).map (·.2)
theorem getL_pairs (l : List It) (a : List UInt8) : getL (pairs l) a = (findB a l).map (·.v) := by
 unfold getL pairs findB
 rw [List.find?_map, Option.map_map]
 rfl
def Holds (S : St) (o : Nat → Nat) (t root : Nat) (L : List (List UInt8 × List UInt8)) (R : List Nat) : Prop :=
 (Empty S o t ∧ root = 0 ∧ L = [] ∧ R = []) ∨ ∃ (d : Nat) (x : Bt (d + 1)), Tree S o t x ∧ root = hd x ∧ L = pairs (its x) ∧ R = recs x
theorem Holds.fit {S : St} {o : Nat → Nat} {t root : Nat} {L : List (List UInt8 × List UInt8)} {R : List Nat} (h : Holds S o t root L R) : Fit S o := by
 rcases h with ⟨h, _⟩ | ⟨_, _, h, _⟩
 · exact h.fit
 · exact h.fit
theorem Holds.deg {S : St} {o : Nat → Nat} {t root : Nat} {L : List (List UInt8 × List UInt8)} {R : List Nat} (h : Holds S o t root L R) : 2 ≤ t ∧ t ≤ 16 := by
 rcases h with ⟨h, _⟩ | ⟨_, _, h, _⟩
 · exact ⟨h.t1, h.t2⟩
 · exact ⟨h.t1, h.t2⟩
theorem Holds.has {S : St} {o : Nat → Nat} {t root : Nat} {L : List (List UInt8 × List UInt8)} {R : List Nat} (h : Holds S o t root L R) : ∀ y ∈ R, reco S y ≠ none := by
 rcases h with ⟨_, _, _, rfl⟩ | ⟨_, _, h, _, _, rfl⟩
 · intro y hy; cases hy
 · exact h.has
theorem Holds.frame {S S' : St} {o o' : Nat → Nat} {t root : Nat} {L : List (List UInt8 × List UInt8)} {R : List Nat} (h : Holds S o t root L R) (hf : Fit S' o') (hs : ∀ y ∈ R, reco S' y = reco S y) : Holds S' o' t root L R := by
 rcases h with ⟨h, h1, h2, h3⟩ | ⟨d, x, h, h1, h2, h3⟩
 · exact Or.inl ⟨⟨hf, h.t1, h.t2⟩, h1, h2, h3⟩
 · refine Or.inr ⟨d, x, h.frame hf (by rw [← h3]; exact hs), h1, h2, h3⟩
end Bt
