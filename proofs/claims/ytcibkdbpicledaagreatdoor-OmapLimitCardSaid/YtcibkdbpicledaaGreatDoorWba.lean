import Derived.Test.YtcibkdbpicledaaGreatDoorWaz
set_option maxRecDepth 100000
set_option maxHeartbeats 3200000
namespace Go.Proofs.YtcibkdbpicledaaGreatDoor
open Go.RowKit Go.BigFrame Go.Maps Go.WideMaps Lf Tr
abbrev ManyOn (w : World) (px ps t root : Nat) : Prop := TreeF w px ps 187 (manyV ps t) 3 t root
theorem reco_zero {S : St} {o : Nat → Nat} (hf : Fit S o) : reco S 0 = none := by
 cases h : reco S 0 with
 | none => rfl
 | some ws => have := (look_ok hf h).1; omega
theorem pairs_length (l : List It) : (pairs l).length = l.length := by unfold pairs; exact List.length_map _
def cntL (L : List (List UInt8 × List UInt8)) (a : List UInt8) : Nat := L.countP fun p => decide (cmpB p.1 a < 0)
theorem cntL_pairs (l : List It) (a : List UInt8) : cntL (pairs l) a = belowB a l := by
 unfold cntL pairs belowB
 rw [List.countP_map]
 rfl
theorem Bt.Tree.low40 {S : St} {o : Nat → Nat} {t d : Nat} {x : Bt (d + 1)} (h : Bt.Tree S o t x) : d < 40 := by have := h.low; omega
section
variable {w : World} {px ps t root : Nat} {S : St} {o : Nat → Nat} {Y : Nat → Prop} {L : List (List UInt8 × List UInt8)} {R : List Nat}
theorem holds_size (h : StOn w ps S Y) (hH : Bt.Holds S o t root L R) : Calls Tryz.prog 163 #[trB ps t, .int .u64 root] w fun e w' => e = .returned (.int .i64 (L.length : Nat)) ∧ Below w.heap.size w w' := by
 rcases hH with ⟨hE, rfl, rfl, rfl⟩ | ⟨d, x, hx, rfl, rfl, rfl⟩
 · exact bt_size0 h hE.fit.inv hE.t1 hE.t2 0 (by omega) (look_none (reco_zero hE.fit))
 · have := bt_size h hx.fit.inv hx.walk.read hx.walk.size.2
   rw [hx.walk.size.1] at this
   rw [pairs_length]
   exact this
theorem holds_down (h : StOn w ps S Y) (hH : Bt.Holds S o t root L R) (key : List UInt8) : ∃ E : Option It, (∀ W, Below w.heap.size w W → Calls Tryz.prog 320 #[trB ps t, .int .u64 root, SV key] W fun e w' => e = .returned (.tuple #[itO E, .bool E.isSome, .int .i64 (cntL L key : Nat)]) ∧ Below W.heap.size W w') ∧ Bt.getL L key = E.map (fun a : It => a.v) ∧ ∀ a, E = some a → a.k = key ∧ Blobs S a := by
 rcases hH with ⟨hE, rfl, rfl, rfl⟩ | ⟨d, x, hx, rfl, rfl, rfl⟩
 · exact ⟨none, fun W hW => bt_down0 (h.below hW) hE.fit.inv hE.t1 hE.t2 0 (by omega) (look_none (reco_zero hE.fit)) key, rfl, fun _ q => by cases q⟩
 · refine ⟨Bt.findB key (Bt.its x), fun W hW => ?_, Bt.getL_pairs _ _, fun a q => ?_⟩
   · rw [cntL_pairs]
     exact bt_down (h.below hW) hx.walk hx.low40 key
   · unfold Bt.findB at q
     exact ⟨by simpa using List.find?_some q, hx.blobs a (List.mem_of_find?_eq_some q)⟩
theorem many_tree_len (h : StOn w ps S Y) (hH : Bt.Holds S o t root L R) (hT : ManyOn w px ps t root) :
 Calls Tryz.prog 56 #[PV px] w fun e w' => e = .returned (.int .i64 (L.length : Nat)) ∧ Below w.heap.size w w' :=
 treeF_len hT methM_size enterM_size fun _ hW => many_size fun _ hV => btree_size (holds_size (h.below (hW.trans (hV.mono hW.size))) hH)
theorem many_tree_rank (h : StOn w ps S Y) (hH : Bt.Holds S o t root L R) (hT : ManyOn w px ps t root) (k : List UInt8) :
 Calls Tryz.prog 49 #[PV px, SV k] w fun e w' => e = .returned (.int .i64 (cntL L k : Nat)) ∧ Below w.heap.size w w' := by
 obtain ⟨E, hd, _⟩ := holds_down h hH k
 exact treeF_rank hT k methM_rank enterM_rank fun _ hW => many_rank k fun _ hV => btree_rank (hd _ (hW.trans (hV.mono hW.size)))
theorem many_tree_get (h : StOn w ps S Y) (hH : Bt.Holds S o t root L R) (hT : ManyOn w px ps t root) (k : List UInt8) :
 Calls Tryz.prog 50 #[PV px, SV k] w fun e w' => e = .returned (.tuple #[SV ((Bt.getL L k).getD []), .bool (Bt.getL L k).isSome]) ∧ Below w.heap.size w w' := by
 have hf := hH.fit
 obtain ⟨E, hd, hE, hb⟩ := holds_down h hH k
 have hfd := fun W (hW : Below w.heap.size w W) V (hV : Below W.heap.size W V) => btree_find (hd V (hW.trans (hV.mono hW.size))) fun V' hV' => hd V' (by rw [hV']; exact (hW.trans (hV.mono hW.size)).alloc (hW.trans (hV.mono hW.size)).size _)
 rw [hE]
 cases E with
 | none => exact treeF_get_nil hT k 0 0 methM_find enterM_find fun _ hW => many_find k 0 0 false fun _ hV => hfd _ hW _ hV
 | some a =>
  have hba := (hb a rfl).2
  have hl := Bt.blobs_lt hf hba
  have hg := getBlob_look hf hba.lv hba.v
  exact treeF_get_yes hT k a.kh a.vh a.v 0 (fun W hW => by
   have := blob_get (h.below hW) hf.inv a.vh hl.2 (by rw [hg]; simp)
   rw [hg] at this
   exact this) methM_find enterM_find fun _ hW => many_find k a.kh a.vh true fun _ hV => hfd _ hW _ hV
theorem many_tree_at (h : StOn w ps S Y) (hH : Bt.Holds S o t root L R) (hT : ManyOn w px ps t root) (k : Nat) {p : List UInt8 × List UInt8} (hk : L[k]? = some p) :
 Calls Tryz.prog 53 #[PV px, .int .i64 k] w fun e w' => e = .returned (.tuple #[prV p, .int .i64 0]) ∧ Below w.heap.size w w' := by
 rcases hH with ⟨hE, rfl, rfl, rfl⟩ | ⟨d, x, hx, rfl, rfl, rfl⟩
 · cases hk
 · have hf := hx.fit
   have hke : ∃ e, (Bt.its x)[k]? = some e ∧ p = (e.k, e.v) := by
    unfold pairs at hk
    rw [List.getElem?_map] at hk
    cases q : (Bt.its x)[k]? with
    | none => rw [q] at hk; cases hk
    | some e =>
     rw [q] at hk
     cases hk
     exact ⟨e, rfl, rfl⟩
   obtain ⟨e, hke, rfl⟩ := hke
   have hba := hx.blobs e (List.mem_of_getElem? hke)
   have hl := Bt.blobs_lt hf hba
   have hg := getBlob_look hf hba.lv hba.v
   have hgk := getBlob_look hf hba.lk hba.k
   exact treeF_at hT k (e.k, e.v) e.kh e.vh 0 0 methM_at enterM_at (fun _ hW => many_at k e.kh e.vh 0 fun _ hV => btree_at (h.below (hW.trans (hV.mono hW.size))) hx.walk hx.low40 hke) (fun W hW => by
    have := blob_get (h.below hW) hf.inv e.kh hl.1 (by rw [hgk]; simp)
    rw [hgk] at this
    exact this) (fun W hW => by
    have := blob_get (h.below hW) hf.inv e.vh hl.2 (by rw [hg]; simp)
    rw [hg] at this
    exact this)
theorem many_tree_at_ref (h : StOn w ps S Y) (hH : Bt.Holds S o t root L R) (hT : ManyOn w px ps t root) (k : Int) (hk : k < 0 ∨ (L.length : Int) ≤ k) :
 Calls Tryz.prog 53 #[PV px, .int .i64 k] w fun e w' => e = .returned (.tuple #[prV ([], []), .int .i64 2]) ∧ Below w.heap.size w w' :=
 treeF_at_ref hT k 0 0 methM_at enterM_at fun _ hW => many_at k 0 0 2 fun _ hV => btree_at_none (h.below (hW.trans (hV.mono hW.size))) hH.fit.inv hH.deg.1 hH.deg.2 (fun _ hU => holds_size (h.below ((hW.trans (hV.mono hW.size)).trans (hU.mono (hW.trans (hV.mono hW.size)).size))) hH) hk
structure PutL (S : St) (L : List (List UInt8 × List UInt8)) (R : List Nat) (Hold : St → (Nat → Nat) → Nat → List (List UInt8 × List UInt8) → List Nat → Prop) (a b : List UInt8) (p q : Nat) (x : Nat) (S3 : St) : Prop where
 holds : ∃ o3 R3, Hold S3 o3 x (putL L a b) R3 ∧ ∀ y ∈ R3, y ∈ R ∨ reco S y = none
 grew : Grew S S3 p q
 apart : ∀ y, y ∉ R → reco S y ≠ none → reco S3 y = reco S y
theorem many_tree_put0 (h : StOn w ps S Y) (hH : Bt.Holds S o t root L R) (hL : L = []) (hT : ManyOn w px ps t root) (hpx : Y px) (a b : List UInt8) (ha : a.length ≤ 1000) (hb : b.length ≤ 1000) (hr : Space S 20 9) :
 Calls Tryz.prog 58 #[PV px, prV (a, b)] w fun e w' => ∃ (x : Nat) (S3 : St), e = .returned (.tuple #[SV ((Bt.getL L a).getD []), .bool (Bt.getL L a).isSome, .int .i64 0]) ∧ StOn w' ps S3 Y ∧ Keep (fun k => Y k ∧ k ≠ px) w w' ∧ ManyOn w' px ps t x ∧ PutL S L R (fun S o x L R => Bt.Holds S o t x L R) a b 20 9 x S3 := by
 obtain ⟨ka, vb, S1, o1, hit, hio, f1, n1, n2, hne, l1, l2, q1, g1⟩ := Bt.two_fit hH.fit ha hb (hr.mono (by omega) (by omega))
 have hfr : ∀ y, reco S y ≠ none → reco S1 y = reco S y := fun y hy => q1 y (by rintro rfl; exact hy n1) (by rintro rfl; exact hy n2)
 have hr1 : Space S1 14 7 := Space.grew (hr.mono (p' := 6 + 14) (q' := 2 + 7) (by omega) (by omega)) g1
 have hbl : Blobs S1 ⟨0, ka, vb, a, b⟩ := ⟨l1, l2, ha, hb⟩
 rcases hH with ⟨hE, rfl, rfl, rfl⟩ | ⟨d, x, hx, rfl, rfl, rfl⟩
 · -- the first key
   refine (treeF_put h hE.fit.inv hT hpx a b hio hit false [] (R := fun x ik iv S' => ik = 0 ∧ iv = 0 ∧ PutL S [] [] (fun S o x L R => Bt.Holds S o t x L R) a b 20 9 x S') (R2 := fun x S' => PutL S [] [] (fun S o x L R => Bt.Holds S o t x L R) a b 20 9 x S') methM_insert enterM_insert (fun W Z hW _ _ => many_insert hW false fun V Z' hV => ?_) fun x ik iv S' hR W Z hW _ _ => ?_).mono ?_
   · refine (bt_insert_first hV ⟨f1, hE.t1, hE.t2⟩ (e := ⟨0, ka, vb, a, b⟩) ⟨hbl, hne⟩ (hr1.mono (by omega) (by omega))).mono ?_
     rintro e w' ⟨y, S', o', rfl, hs, hk, ht, hi, hn, hap, hg⟩
     refine ⟨_, _, _, S', rfl, hs, hk, rfl, rfl, ⟨⟨o', Bt.recs y, Or.inr ⟨0, y, ht, rfl, ?_, rfl⟩, fun z hzm => ?_⟩, (g1.trans hg).mono (by omega) (by omega), fun z _ hz => (hap z (by rw [hfr z hz]; exact hz)).trans (hfr z hz)⟩⟩
     · rw [hi]; rfl
     · refine Or.inr ?_
       cases q : reco S z with
       | none => rfl
       | some ws =>
        exfalso
        have hz1 := hfr z (by rw [q]; simp)
        unfold Bt.recs at hzm
        rcases List.mem_append.1 hzm with hm | hm
        · rw [hn z hm, q] at hz1; cases hz1
        · rw [hi] at hm
          have hm : z ∈ [ka, vb] := hm
          rcases List.mem_cons.1 hm with rfl | hm
          · rw [n1] at q; cases q
          · rw [List.mem_singleton.1 hm, n2] at q; cases q
   · obtain ⟨rfl, rfl, hR⟩ := hR
     refine (tree_gone0 px 0 0 W).mono ?_
     rintro e w' ⟨rfl, hb⟩
     exact ⟨S', rfl, hW.below hb, hW.keep hb, hR⟩
   · rintro e w' ⟨x, S3, rfl, h1, h2, h3, h4⟩
     exact ⟨x, S3, rfl, h1, h2, h3, h4⟩
 · exfalso
   have h1 := Bt.pow_le t hx.t1 hx.ok hx.pos
   have h2 := congrArg List.length hL
   rw [pairs_length] at h2
   have h3 : 2 ^ 1 ≤ 2 ^ (d + 1) := Nat.pow_le_pow_right (by decide) (by omega)
   have h2 : (Bt.its x).length = 0 := h2
   omega
end
theorem bulk_asked3 {w : World} {ps : Nat} {S : St} {Y : Nat → Prop} (h : StOn w ps S Y) (hi : Inv S) {t : Nat} (t1 : 2 ≤ t) (t2 : t ≤ 16) :
 Calls Tryz.prog 135 #[PV ps, .int .i64 3, .int .i64 t] w fun e w' => e = .returned (.int .i64 0) ∧ w = w' := by
 have hlen := st_len h hi 0 (by omega)
 rw [len_zero] at hlen
 have hbw := fun W => bnode_words t t1 t2 W
 have h6 : ((6 * (t : Int)) == 0) = false := by simp; omega
 have HG := kq2 hlen hbw
 clear hlen h hi hbw
 go_enter Tryz.func135, Tryz.ntmps135
 go_wp2_with fail
 refine HG.out.1.mono ?_
 rintro e w1 ⟨rfl, rfl⟩
 go_wp2_with fail
 refine (HG.out.2 _).mono ?_
 rintro e w1 ⟨rfl, rfl⟩
 go_wp2_with fail
 go_ret
 exact ⟨rfl, rfl⟩
theorem btree_check0 {w : World} {ps : Nat} {S : St} {Y : Nat → Prop} (h : StOn w ps S Y) (hi : Inv S) {t : Nat} (t1 : 2 ≤ t) (t2 : t ≤ 16) :
 Calls Tryz.prog 136 #[PV ps, .int .i64 t, .int .u64 0] w fun e w' => e = .returned (.int .i64 0) ∧ w = w' := by
 have HG := Lib.hid (bt_asked h hi t1 t2)
 clear h hi
 go_enter Tryz.func136, Tryz.ntmps136
 go_wp2_with fail
 refine HG.out.mono ?_
 rintro e w1 ⟨rfl, rfl⟩
 go_wp2_with fail
 go_ret
 exact ⟨rfl, rfl⟩
theorem bulk_check03 {w : World} {ps : Nat} {S : St} {Y : Nat → Prop} (h : StOn w ps S Y) (hi : Inv S) {t : Nat} (t1 : 2 ≤ t) (t2 : t ≤ 16) :
 Calls Tryz.prog 107 #[PV ps, .int .i64 3, .int .i64 t, .int .u64 0] w fun e w' => e = .returned (.int .i64 0) ∧ w = w' := by
 have HG := kq2 (bulk_asked3 h hi t1 t2) (btree_check0 h hi t1 t2)
 clear h hi
 go_enter Tryz.func107, Tryz.ntmps107
 go_wp2_with fail
 refine HG.out.1.mono ?_
 rintro e w1 ⟨rfl, rfl⟩
 go_wp2_with fail
 refine HG.out.2.mono ?_
 rintro e w1 ⟨rfl, rfl⟩
 go_wp2_with fail
 go_ret
 exact ⟨rfl, rfl⟩
theorem many_open {w : World} {ps : Nat} {S : St} {Y : Nat → Prop} (h : StOn w ps S Y) (hi : Inv S) {t : Nat} (t1 : 2 ≤ t) (t2 : t ≤ 16) :
 Calls Tryz.prog 84 #[PV ps, .int .i64 3, .int .i64 t, .int .u64 0] w fun e w' => ∃ px, e = .returned (.tuple #[PV px, .int .i64 0]) ∧ ManyOn w' px ps t 0 ∧ Below w.heap.size w w' ∧ w.heap.size ≤ px := by
 have HG := Lib.hid (bulk_check03 h hi t1 t2)
 have q := heap_alloc_new w (.cells #[PV ps, .int .i64 3, .int .i64 t, .iface 187 (.agg #[PV ps, .int .i64 t]), .int .u64 0] 134)
 have B := (Below.refl w.heap.size w).alloc (Nat.le_refl _) (.cells #[PV ps, .int .i64 3, .int .i64 t, .iface 187 (.agg #[PV ps, .int .i64 t]), .int .u64 0] 134)
 have HB := kq2 q B
 clear h hi q B
 go_enter Tryz.func84, Tryz.ntmps84
 go_wp2_with fail
 refine HG.out.mono ?_
 rintro e w1 ⟨rfl, rfl⟩
 go_wp2_with fail
 go_ret2
 exact ⟨w.heap.size, rfl, HB.out.1, HB.out.2, Nat.le_refl _⟩
theorem many_new {w : World} {ps : Nat} {S : St} {Y : Nat → Prop} (h : StOn w ps S Y) (hi : Inv S) {t : Nat} (t1 : 2 ≤ t) (t2 : t ≤ 16) :
 Calls Tryz.prog 59 #[PV ps, .int .i64 3, .int .i64 t] w fun e w' => ∃ px, e = .returned (.tuple #[PV px, .int .i64 0]) ∧ ManyOn w' px ps t 0 ∧ Below w.heap.size w w' ∧ w.heap.size ≤ px := by
 have HG := Lib.hid (many_open h hi t1 t2)
 clear h hi
 go_enter Tryz.func59, Tryz.ntmps59
 go_wp2_with fail
 refine HG.out.mono ?_
 rintro e w1 ⟨px, rfl, hr⟩
 have HB := Lib.hid hr
 clear hr
 go_wp2_with fail
 go_ret2
 exact ⟨px, rfl, HB.out⟩
end Go.Proofs.YtcibkdbpicledaaGreatDoor
namespace Go.Proofs.YtcibkdbpicledaaGreatDoor
open Go.RowKit Go.BigFrame Go.Maps Go.WideMaps Lf
theorem fld4 (a0 a1 a2 a3 a4 a5 : Value) (w : World) : (Instr.field 232 (.agg #[a0, a1, a2, a3, a4, a5]) 4).run Tryz.prog w = .ok a4 w := by kernel_rfl
def Lf.blackT (S : St) (h : Nat) : Nat := (getNode S h).1.mark / 2
def Lf.redT (S : St) (h : Nat) : Bool := decide ((getNode S h).1.mark % 2 = 1)
def Lf.putRM (S : St) (h l r : Nat) (isRed : Bool) : Option St :=
 match sizeM S l, sizeM S r with
 | some x, some y => if 4611686018427387904 ≤ blackT S l then none else
  some (putNode S h { (getNode S h).1 with left := l, right := r, mark := blackT S l * 2 + (if isRed then 1 else 2), size := x + y + 1 }).2
 | _, _ => none
theorem putRM_some {S S' : St} {h l r : Nat} {c : Bool} (hp : putRM S h l r c = some S') : ∃ x y, sizeM S l = some x ∧ sizeM S r = some y ∧ blackT S l < 4611686018427387904 ∧
 S' = (putNode S h { (getNode S h).1 with left := l, right := r, mark := blackT S l * 2 + (if c then 1 else 2), size := x + y + 1 }).2 := by
 unfold putRM at hp
 split at hp
 · rename_i x y h1 h2
   split at hp
   · cases hp
   · exact ⟨x, y, h1, h2, by omega, (Option.some.inj hp).symm⟩
 · cases hp
theorem rb_get {w : World} {ps : Nat} {S : St} {Y : Nat → Prop} (h : StOn w ps S Y) (hi : Inv S) (hh : Nat) (hl : hh < 18446744073709551616) :
 Calls Tryz.prog 228 #[PV ps, .int .u64 hh] w fun e w' => e = .returned (ndV (getNode S hh).1) ∧ Below w.heap.size w w' := by
 have B0 := (Below.refl w.heap.size w).alloc (Nat.le_refl _) (.cells #[.int .u64 0, .int .u64 0, .int .u64 0, .int .u64 0, .int .u64 0, .int .u64 0] 232)
 have q0 := heap_alloc_new w (.cells #[.int .u64 0, .int .u64 0, .int .u64 0, .int .u64 0, .int .u64 0, .int .u64 0] 232)
 have hg := node_get (h.below B0) hi hh hl
 obtain ⟨⟨⟨k0, k1, k2, k3, k4, k5⟩, er⟩, hE⟩ : ∃ r, getNode S hh = r := ⟨_, rfl⟩
 rw [hE] at hg ⊢
 unfold ndV at hg ⊢
 simp only at hg ⊢
 have HG := kq3 hg B0 q0
 clear hg h hi hE B0 q0
 go_enter Tryz.func228, Tryz.ntmps228
 go_wp2_with fail
 refine HG.out.1.mono ?_
 rintro e w1 ⟨rfl, hb⟩
 have hal := hb.alloc hb.size (.cells #[.int .u64 k0, .int .u64 k1, .int .u64 k2, .int .u64 k3, .int .u64 k4, .int .u64 k5] 232)
 have r0 := (hal.block w.heap.size (by simp)).trans HG.out.2.2
 have B1 := HG.out.2.1.trans (hal.mono HG.out.2.1.size)
 obtain ⟨c0, c1, c2, c3, c4, c5⟩ := cells6 r0
 obtain ⟨f0, f1, f2, f3, f4, f5⟩ := frees6 r0
 have HB := kq2 r0 B1
 clear r0 B1 hal hb
 go_wp2_with fail
 have q6 := st6_heap HB.out.1 (.int .u64 k0) (.int .u64 k1) (.int .u64 k2) (.int .u64 k3) (.int .u64 k4) (.int .u64 k5)
 have B6 := st6_below HB.out.2 (Nat.le_refl w.heap.size) (.int .u64 k0) (.int .u64 k1) (.int .u64 k2) (.int .u64 k3) (.int .u64 k4) (.int .u64 k5)
 generalize (((((((w1.alloc (.cells #[.int .u64 k0, .int .u64 k1, .int .u64 k2, .int .u64 k3, .int .u64 k4, .int .u64 k5] 232)).setCell ⟨w.heap.size, 0, none⟩ (.int .u64 k0)).setCell ⟨w.heap.size, 1, none⟩ (.int .u64 k1)).setCell ⟨w.heap.size, 2, none⟩ (.int .u64 k2)).setCell ⟨w.heap.size, 3, none⟩ (.int .u64 k3)).setCell ⟨w.heap.size, 4, none⟩ (.int .u64 k4)).setCell ⟨w.heap.size, 5, none⟩ (.int .u64 k5)) = W6 at q6 B6 ⊢
 obtain ⟨g0, g1, g2, g3, g4, g5⟩ := cells6 q6
 exact bodyPost_ret (v := .agg #[.int .u64 k0, .int .u64 k1, .int .u64 k2, .int .u64 k3, .int .u64 k4, .int .u64 k5]) (by simp [results, Tryz.f228, go_sem, g0, g1, g2, g3, g4, g5]) rfl ⟨rfl, B6⟩
theorem rb_black {w : World} {ps : Nat} {S : St} {Y : Nat → Prop} (h : StOn w ps S Y) (hi : Inv S) (hh : Nat) (hl : hh < 18446744073709551616) :
 Calls Tryz.prog 224 #[PV ps, .int .u64 hh] w fun e w' => e = .returned (.int .u64 (blackT S hh : Nat)) ∧ Below w.heap.size w w' := by
 have hg := rb_get h hi hh hl
 unfold blackT
 obtain ⟨⟨⟨k0, k1, k2, k3, k4, k5⟩, er⟩, hE⟩ : ∃ r, getNode S hh = r := ⟨_, rfl⟩
 rw [hE] at hg ⊢
 unfold ndV at hg
 simp only at hg ⊢
 have hfl := fld4
 have HG := Lib.hid hg
 clear hg h hi hE
 go_enter Tryz.func224, Tryz.ntmps224
 go_wp2_with fail
 refine HG.out.mono ?_
 rintro e w1 ⟨rfl, hb⟩
 have HB := Lib.hid hb
 clear hb
 go_wp2_with fail
 go_ret
 exact ⟨by simp, HB.out⟩
theorem rb_red {w : World} {ps : Nat} {S : St} {Y : Nat → Prop} (h : StOn w ps S Y) (hi : Inv S) (hh : Nat) (hl : hh < 18446744073709551616) :
 Calls Tryz.prog 227 #[PV ps, .int .u64 hh] w fun e w' => e = .returned (.bool (redT S hh)) ∧ Below w.heap.size w w' := by
 have hg := rb_get h hi hh hl
 have hlt := (getNode_lt h hh).mark
 unfold redT
 obtain ⟨⟨⟨k0, k1, k2, k3, k4, k5⟩, er⟩, hE⟩ : ∃ r, getNode S hh = r := ⟨_, rfl⟩
 rw [hE] at hg hlt ⊢
 unfold ndV at hg
 simp only at hg hlt ⊢
 have hand : bits BinOp.and IntKind.u64 (k4 : Int) 1 = ((k4 % 2 : Nat) : Int) := by
  have h1 := bits_and_u64_nat k4 1 hlt (by decide)
  rw [show ((1 : Nat) : Int) = 1 from rfl] at h1
  rw [h1, Nat.and_one_is_mod]
 have HA := Lib.hid hand
 clear hand
 have hfl := fld4
 have HG := Lib.hid hg
 clear hg h hi hE
 go_enter Tryz.func227, Tryz.ntmps227
 go_wp2_with fail
 refine HG.out.mono ?_
 rintro e w1 ⟨rfl, hb⟩
 have HB := Lib.hid hb
 clear hb
 go_wp2_with fail
 go_ret
 refine ⟨?_, HB.out⟩
 rw [HA.out]
 rcases Nat.mod_two_eq_zero_or_one k4 with e | e <;> simp [e]
theorem rb_is {w : World} {ps : Nat} {S : St} {Y : Nat → Prop} (h : StOn w ps S Y) (hi : Inv S) (hh : Nat) (hl : hh < 18446744073709551616) :
 Calls Tryz.prog 223 #[PV ps, .int .u64 hh] w fun e w' => e = .returned (.bool (isT S hh)) ∧ Below w.heap.size w w' := by
 have hg := node_get h hi hh hl
 obtain ⟨R, hR⟩ : ∃ R, isT S hh = R := ⟨_, rfl⟩
 rw [hR]
 unfold isT at hR
 obtain ⟨⟨⟨k0, k1, k2, k3, k4, k5⟩, er⟩, hE⟩ : ∃ r, getNode S hh = r := ⟨_, rfl⟩
 rw [hE] at hg hR
 unfold ndV at hg
 simp only at hg hR
 have hR1 : R = (((hh : Int) == 0) || ((er : Int) == 0)) := by
  rw [← hR]
  by_cases a : hh = 0 <;> by_cases b : er = 0 <;> simp [a, b] <;> omega
 have HG := kq2 hg hR1
 clear hg h hi hE hR hR1
 by_cases h0 : hh = 0
 · subst h0
   go_enter Tryz.func223, Tryz.ntmps223
   go_wp2_with fail
   refine HG.out.1.mono ?_
   rintro e w1 ⟨rfl, hb⟩
   have HB := Lib.hid (hb.alloc hb.size (.cells #[.int .u64 k0, .int .u64 k1, .int .u64 k2, .int .u64 k3, .int .u64 k4, .int .u64 k5] 232))
   clear hb
   go_wp2_with fail
   go_ret
   obtain rfl := HG.out.2
   exact ⟨by simp, HB.out⟩
 · have hq : ((hh : Int) == 0) = false := by simp; omega
   go_enter Tryz.func223, Tryz.ntmps223
   go_wp2_with fail
   refine HG.out.1.mono ?_
   rintro e w1 ⟨rfl, hb⟩
   have HB := Lib.hid (hb.alloc hb.size (.cells #[.int .u64 k0, .int .u64 k1, .int .u64 k2, .int .u64 k3, .int .u64 k4, .int .u64 k5] 232))
   clear hb
   go_wp2_with fail
   go_ret
   obtain rfl := HG.out.2
   exact ⟨by simp [hq], HB.out⟩
theorem rb_put {w : World} {ps : Nat} {S S' : St} {Y : Nat → Prop} (h : StOn w ps S Y) (hi : Inv S) (hh l r : Nat) (c : Bool) (hl : hh < 18446744073709551616) (hll : l < 18446744073709551616) (hrl : r < 18446744073709551616) (hp : putRM S hh l r c = some S') :
 Calls Tryz.prog 226 #[PV ps, .int .u64 hh, .int .u64 l, .int .u64 r, .bool c] w fun e w' => e = .returned (.int .u64 hh) ∧ StOn w' ps S' Y ∧ Keep Y w w' := by
 obtain ⟨x, y, h1, h2, hbk, rfl⟩ := putRM_some hp
 have hx : x < 4611686018427387904 := by have := num_some h1; omega
 have hy : y < 4611686018427387904 := by have := num_some h2; omega
 have hnl := getNode_lt h hh
 have hg := rb_get h hi hh hl
 have hb := fun W (hW : Below w.heap.size w W) => rb_black (h.below hW) hi l hll
 have hZ1 := fun W (hW : Below w.heap.size w W) => walk_size (h.below hW) hi l hll h1
 have hZ2 := fun W (hW : Below w.heap.size w W) => walk_size (h.below hW) hi r hrl h2
 generalize blackT S l = bk at *
 obtain ⟨⟨⟨k0, k1, k2, k3, k4, k5⟩, er⟩, hE⟩ : ∃ q, getNode S hh = q := ⟨_, rfl⟩
 rw [hE] at hg hnl ⊢
 simp only at hnl ⊢
 have hpu := fun W Z (hW : StOn W ps S Z) => node_put hW hi hh hl ⟨k0, k1, l, r, bk * 2 + (if c then 1 else 2), x + y + 1⟩ ⟨hnl.key, hnl.val, hll, hrl, by simp only; split <;> omega, by simp only; omega⟩
 have hnd : ndV ⟨k0, k1, l, r, bk * 2 + (if c then 1 else 2), x + y + 1⟩ = .agg #[.int .u64 k0, .int .u64 k1, .int .u64 l, .int .u64 r, .int .u64 ((bk * 2 + (if c then 1 else 2) : Nat) : Int), .int .u64 ((x : Int) + y + 1)] := by simp [ndV]
 rw [hnd] at hpu
 unfold ndV at hg
 simp only at hg
 have HG := kq6 hg hb hZ1 hZ2 hpu h
 have hs1 : IntKind.u64.wrap ((bk : Int) * 2) = (bk : Int) * 2 := by rw [IntKind.wrap_u64]; omega
 have hs2 : IntKind.u64.wrap ((bk : Int) * 2 + 2) = (bk : Int) * 2 + 2 := by rw [IntKind.wrap_u64]; omega
 have hor : bits BinOp.or IntKind.u64 ((bk : Int) * 2) 1 = (bk : Int) * 2 + 1 := by
  rw [show ((bk : Int) * 2) = ((bk * 2 : Nat) : Int) by simp, show (1 : Int) = ((1 : Nat) : Int) from rfl, bits_or_u64_nat _ _ (by omega) (by decide)]
  have : bk * 2 ||| 1 = bk * 2 + 1 := by
   rw [show bk * 2 = bk <<< 1 by simp [Nat.shiftLeft_eq]]
   exact (Nat.shiftLeft_add_eq_or_of_lt (by decide) bk).symm
  omega
 clear hg hb hZ1 hZ2 hpu hnd h hi hE hp h1 h2 hnl
 cases c with
 | true =>
  simp only [if_true] at HG ⊢
  go_enter Tryz.func226, Tryz.ntmps226
  go_wp2_with fail
  refine HG.out.1.mono ?_
  rintro e w1 ⟨rfl, hb1⟩
  have q1 := heap_alloc_new w1 (.cells #[.int .u64 k0, .int .u64 k1, .int .u64 l, .int .u64 r, .int .u64 k4, .int .u64 k5] 232)
  have B1 := hb1.alloc hb1.size (.cells #[.int .u64 k0, .int .u64 k1, .int .u64 l, .int .u64 r, .int .u64 k4, .int .u64 k5] 232)
  have z1 := hb1.size
  clear hb1
  go_wp2_with fail
  generalize w1.alloc (.cells #[.int .u64 k0, .int .u64 k1, .int .u64 l, .int .u64 r, .int .u64 k4, .int .u64 k5] 232) = W at *
  generalize w1.heap.size = b at *
  refine (HG.out.2.1 _ B1).mono ?_
  rintro e w2 ⟨rfl, hb2⟩
  have r2 := (hb2.block b (gl q1)).trans q1
  obtain ⟨c0, c1, c2, c3, c4, c5⟩ := cells6 r2
  obtain ⟨f0, f1, f2, f3, f4, f5⟩ := frees6 r2
  have H2 := kq3 (B1.trans (hb2.mono B1.size)) r2 z1
  clear hb2 r2 B1 q1 z1
  go_wp2_with fail
  have r3 : ((w2.setCell ⟨b, 4, none⟩ (.int .u64 ((bk : Int) * 2))).setCell ⟨b, 4, none⟩ (.int .u64 ((bk : Int) * 2 + 1))).heap[b]? = some (.cells #[.int .u64 k0, .int .u64 k1, .int .u64 l, .int .u64 r, .int .u64 ((bk : Int) * 2 + 1), .int .u64 k5] 232) := by rw [heap_setCell (heap_setCell H2.out.2.1)]; rfl
  have B3 := (H2.out.1.setCell (p := ⟨b, 4, none⟩) H2.out.2.2 (.int .u64 ((bk : Int) * 2))).setCell (p := ⟨b, 4, none⟩) H2.out.2.2 (.int .u64 ((bk : Int) * 2 + 1))
  generalize ((w2.setCell ⟨b, 4, none⟩ (.int .u64 ((bk : Int) * 2))).setCell ⟨b, 4, none⟩ (.int .u64 ((bk : Int) * 2 + 1))) = w3 at *
  clear c0 c1 c2 c3 c4 c5 f0 f1 f2 f3 f4 f5
  refine (HG.out.2.2.1 _ B3).mono ?_
  rintro e w4 ⟨rfl, hb4⟩
  have H4 := kq2 (B3.trans (hb4.mono B3.size)) ((hb4.block b (gl r3)).trans r3)
  clear hb4 r3 B3
  go_wp2_with fail
  refine (HG.out.2.2.2.1 _ H4.out.1).mono ?_
  rintro e w5 ⟨rfl, hb5⟩
  have r5 := (hb5.block b (gl H4.out.2)).trans H4.out.2
  obtain ⟨c0, c1, c2, c3, c4, c5⟩ := cells6 r5
  obtain ⟨f0, f1, f2, f3, f4, f5⟩ := frees6 r5
  have H5 := kq2 (H4.out.1.trans (hb5.mono H4.out.1.size)) r5
  clear hb5 r5
  go_wp2_with fail
  have r6 : (w5.setCell ⟨b, 5, none⟩ (.int .u64 ((x : Int) + y + 1))).heap[b]? = some (.cells #[.int .u64 k0, .int .u64 k1, .int .u64 l, .int .u64 r, .int .u64 ((bk : Int) * 2 + 1), .int .u64 ((x : Int) + y + 1)] 232) := heap_setCell H5.out.2
  have B6 := H5.out.1.setCell (p := ⟨b, 5, none⟩) H2.out.2.2 (.int .u64 ((x : Int) + y + 1))
  refine (HG.out.2.2.2.2.1 _ _ (HG.out.2.2.2.2.2.wide B6)).mono ?_
  rintro e w7 ⟨rfl, h7, k7⟩
  have H7 := kq2 (h7.mono (Z := Y) fun k hk => Or.inl hk) ((Keep.of_below B6 HG.out.2.2.2.2.2.yl).trans (k7.mono fun k hk => Or.inl hk))
  clear h7 k7 r6 B6 c0 c1 c2 c3 c4 c5 f0 f1 f2 f3 f4 f5
  go_wp2_with fail
  go_ret
  exact ⟨rfl, H7.out⟩
 | false =>
  simp only [Bool.false_eq_true, if_false] at HG ⊢
  go_enter Tryz.func226, Tryz.ntmps226
  go_wp2_with fail
  refine HG.out.1.mono ?_
  rintro e w1 ⟨rfl, hb1⟩
  have q1 := heap_alloc_new w1 (.cells #[.int .u64 k0, .int .u64 k1, .int .u64 l, .int .u64 r, .int .u64 k4, .int .u64 k5] 232)
  have B1 := hb1.alloc hb1.size (.cells #[.int .u64 k0, .int .u64 k1, .int .u64 l, .int .u64 r, .int .u64 k4, .int .u64 k5] 232)
  have z1 := hb1.size
  clear hb1
  go_wp2_with fail
  generalize w1.alloc (.cells #[.int .u64 k0, .int .u64 k1, .int .u64 l, .int .u64 r, .int .u64 k4, .int .u64 k5] 232) = W at *
  generalize w1.heap.size = b at *
  refine (HG.out.2.1 _ B1).mono ?_
  rintro e w2 ⟨rfl, hb2⟩
  have r2 := (hb2.block b (gl q1)).trans q1
  obtain ⟨c0, c1, c2, c3, c4, c5⟩ := cells6 r2
  obtain ⟨f0, f1, f2, f3, f4, f5⟩ := frees6 r2
  have H2 := kq3 (B1.trans (hb2.mono B1.size)) r2 z1
  clear hb2 r2 B1 q1 z1
  go_wp2_with fail
  have r3 : ((w2.setCell ⟨b, 4, none⟩ (.int .u64 ((bk : Int) * 2))).setCell ⟨b, 4, none⟩ (.int .u64 ((bk : Int) * 2 + 2))).heap[b]? = some (.cells #[.int .u64 k0, .int .u64 k1, .int .u64 l, .int .u64 r, .int .u64 ((bk : Int) * 2 + 2), .int .u64 k5] 232) := by rw [heap_setCell (heap_setCell H2.out.2.1)]; rfl
  have B3 := (H2.out.1.setCell (p := ⟨b, 4, none⟩) H2.out.2.2 (.int .u64 ((bk : Int) * 2))).setCell (p := ⟨b, 4, none⟩) H2.out.2.2 (.int .u64 ((bk : Int) * 2 + 2))
  generalize ((w2.setCell ⟨b, 4, none⟩ (.int .u64 ((bk : Int) * 2))).setCell ⟨b, 4, none⟩ (.int .u64 ((bk : Int) * 2 + 2))) = w3 at *
  clear c0 c1 c2 c3 c4 c5 f0 f1 f2 f3 f4 f5
  refine (HG.out.2.2.1 _ B3).mono ?_
  rintro e w4 ⟨rfl, hb4⟩
  have H4 := kq2 (B3.trans (hb4.mono B3.size)) ((hb4.block b (gl r3)).trans r3)
  clear hb4 r3 B3
  go_wp2_with fail
  refine (HG.out.2.2.2.1 _ H4.out.1).mono ?_
  rintro e w5 ⟨rfl, hb5⟩
  have r5 := (hb5.block b (gl H4.out.2)).trans H4.out.2
  obtain ⟨c0, c1, c2, c3, c4, c5⟩ := cells6 r5
  obtain ⟨f0, f1, f2, f3, f4, f5⟩ := frees6 r5
  have H5 := kq2 (H4.out.1.trans (hb5.mono H4.out.1.size)) r5
  clear hb5 r5
  go_wp2_with fail
  have r6 : (w5.setCell ⟨b, 5, none⟩ (.int .u64 ((x : Int) + y + 1))).heap[b]? = some (.cells #[.int .u64 k0, .int .u64 k1, .int .u64 l, .int .u64 r, .int .u64 ((bk : Int) * 2 + 2), .int .u64 ((x : Int) + y + 1)] 232) := heap_setCell H5.out.2
  have B6 := H5.out.1.setCell (p := ⟨b, 5, none⟩) H2.out.2.2 (.int .u64 ((x : Int) + y + 1))
  refine (HG.out.2.2.2.2.1 _ _ (HG.out.2.2.2.2.2.wide B6)).mono ?_
  rintro e w7 ⟨rfl, h7, k7⟩
  have H7 := kq2 (h7.mono (Z := Y) fun k hk => Or.inl hk) ((Keep.of_below B6 HG.out.2.2.2.2.2.yl).trans (k7.mono fun k hk => Or.inl hk))
  clear h7 k7 r6 B6 c0 c1 c2 c3 c4 c5 f0 f1 f2 f3 f4 f5
  go_wp2_with fail
  go_ret
  exact ⟨rfl, H7.out⟩
end Go.Proofs.YtcibkdbpicledaaGreatDoor
namespace Go.Proofs.YtcibkdbpicledaaGreatDoor
open Lf
def Lf.sidesT (S : St) (tu : Bool) (h : Nat) : Nat × Nat := if tu = true then ((getNode S h).1.right, (getNode S h).1.left) else ((getNode S h).1.left, (getNode S h).1.right)
def Lf.putJ (S : St) (tu : Bool) (h other own : Nat) (c : Bool) : Option St := if tu = true then putRM S h own other c else putRM S h other own c
def Lf.fixR (tu : Bool) (S : St) (t other x : Nat) (is : Bool) : Option (Nat × St) :=
 if is = true ∨ redT S x = false then some (t, S)
 else if redT S (sidesT S tu x).2 = false then some (t, S)
 else match putJ S tu (sidesT S tu x).2 (sidesT S tu (sidesT S tu x).2).1 (sidesT S tu (sidesT S tu x).2).2 false with
  | none => none
  | some S1 => match putJ S1 tu t other (sidesT S tu x).1 false with
   | none => none
   | some S2 => (putJ S2 tu x t (sidesT S tu x).2 true).map fun S3 => (x, S3)
def Lf.joinR (tu : Bool) (m : Nat) : Nat → St → Nat → Nat → Option (Nat × St)
 | 0, S, t, low => (putJ S tu m t low true).map fun S' => (m, S')
 | f + 1, S, t, low =>
  if redT S t = false ∧ blackT S t = blackT S low then (putJ S tu m t low true).map fun S' => (m, S')
  else match joinR tu m f S (sidesT S tu t).2 low with
   | none => none
   | some (x, S1) =>
    match putJ S1 tu t (sidesT S tu t).1 x (redT S t) with
    | none => none
    | some S2 => chk (fixR tu S2 t (sidesT S tu t).1 x (redT S t))
theorem joinR_zero (tu : Bool) (m : Nat) (S : St) (t low : Nat) : joinR tu m 0 S t low = (putJ S tu m t low true).map fun S' => (m, S') := rfl
theorem joinR_succ (tu : Bool) (m f : Nat) (S : St) (t low : Nat) : joinR tu m (f + 1) S t low =
 if redT S t = false ∧ blackT S t = blackT S low then (putJ S tu m t low true).map fun S' => (m, S')
 else match joinR tu m f S (sidesT S tu t).2 low with
  | none => none
  | some (x, S1) =>
   match putJ S1 tu t (sidesT S tu t).1 x (redT S t) with
   | none => none
   | some S2 => chk (fixR tu S2 t (sidesT S tu t).1 x (redT S t)) := rfl
def Lf.topR (tu : Bool) (S : St) (t m low : Nat) : Option (Nat × St) :=
 match joinR tu m 200 S t low with
 | none => none
 | some (h, S1) =>
  if redT S1 h = true ∧ redT S1 (sidesT S1 tu h).2 = true then (putJ S1 tu h (sidesT S1 tu h).1 (sidesT S1 tu h).2 false).map fun S2 => (h, S2)
  else some (h, S1)
def Lf.redJ (S : St) (l m r : Nat) : Option ((Nat × Nat) × St) :=
 if m = 0 ∨ isT S l = false ∨ isT S m = false ∨ isT S r = false then none
 else if blackT S r < blackT S l then (topR false S l m r).map fun x => ((x.1, 0), x.2)
 else if blackT S l < blackT S r then (topR true S r m l).map fun x => ((x.1, 0), x.2)
 else (putRM S m l r (!redT S l && !redT S r)).map fun S' => ((m, 0), S')
theorem putRM_inv {S S' : St} {h l r : Nat} {c : Bool} (hi : Inv S) (hp : putRM S h l r c = some S') : Inv S' := by
 obtain ⟨_, _, _, _, _, rfl⟩ := putRM_some hp
 exact putNode_inv hi _ _
theorem putJ_inv {S S' : St} {tu : Bool} {h a b : Nat} {c : Bool} (hi : Inv S) (hp : putJ S tu h a b c = some S') : Inv S' := by
 unfold putJ at hp
 split at hp <;> exact putRM_inv hi hp
theorem fixR_inv {tu : Bool} {S S' : St} {t other x y : Nat} {is : Bool} (hi : Inv S) (h : fixR tu S t other x is = some (y, S')) : Inv S' := by
 unfold fixR at h
 split at h
 · injection h with h; injection h with _ e; rw [← e]; exact hi
 · split at h
   · injection h with h; injection h with _ e; rw [← e]; exact hi
   · split at h
     · cases h
     · rename_i S1 h1
       split at h
       · cases h
       · rename_i S2 h2
         obtain ⟨S3, h3, h4⟩ := Option.map_eq_some_iff.1 h
         injection h4 with _ e
         rw [← e]
         exact putJ_inv (putJ_inv (putJ_inv hi h1) h2) h3
theorem joinR_inv (tu : Bool) {m : Nat} : ∀ (f : Nat) {S S' : St} {t low x : Nat}, Inv S → joinR tu m f S t low = some (x, S') → Inv S' ∧ (m < 18446744073709551616 → x < 18446744073709551616)
 | 0, S, S', t, low, x, hi, hj => by
  rw [joinR_zero] at hj
  obtain ⟨S1, h1, h2⟩ := Option.map_eq_some_iff.1 hj
  injection h2 with e1 e2
  subst e1 e2
  exact ⟨putJ_inv hi h1, id⟩
 | f + 1, S, S', t, low, x, hi, hj => by
  rw [joinR_succ] at hj
  split at hj
  · obtain ⟨S1, h1, h2⟩ := Option.map_eq_some_iff.1 hj
    injection h2 with e1 e2
    subst e1 e2
    exact ⟨putJ_inv hi h1, id⟩
  · split at hj
    · cases hj
    · rename_i x1 S1 h1
      split at hj
      · cases hj
      · rename_i S2 h2
        obtain ⟨h3, h4⟩ := chk_some hj
        exact ⟨fixR_inv (putJ_inv (joinR_inv tu f hi h1).1 h2) h3, fun _ => h4⟩
theorem topR_inv {tu : Bool} {S S' : St} {t m low x : Nat} (hi : Inv S) (h : topR tu S t m low = some (x, S')) : Inv S' ∧ (m < 18446744073709551616 → x < 18446744073709551616) := by
 unfold topR at h
 split at h
 · cases h
 · rename_i y S1 h1
   obtain ⟨i1, l1⟩ := joinR_inv tu 200 hi h1
   split at h
   · obtain ⟨S2, h2, h3⟩ := Option.map_eq_some_iff.1 h
     injection h3 with e1 e2
     subst e1 e2
     exact ⟨putJ_inv i1 h2, l1⟩
   · injection h with h
     injection h with e1 e2
     subst e1 e2
     exact ⟨i1, l1⟩
theorem redJ_inv {S S' : St} {l m r : Nat} {R : Nat × Nat} (hi : Inv S) (h : redJ S l m r = some (R, S')) : Inv S' ∧ (m < 18446744073709551616 → R.1 < 18446744073709551616) ∧ R.2 = 0 := by
 unfold redJ at h
 split at h
 · cases h
 · split at h
   · obtain ⟨x, h1, h2⟩ := Option.map_eq_some_iff.1 h
     injection h2 with e1 e2
     subst e1 e2
     exact ⟨(topR_inv hi h1).1, (topR_inv hi h1).2, rfl⟩
   · split at h
     · obtain ⟨x, h1, h2⟩ := Option.map_eq_some_iff.1 h
       injection h2 with e1 e2
       subst e1 e2
       exact ⟨(topR_inv hi h1).1, (topR_inv hi h1).2, rfl⟩
     · obtain ⟨S1, h1, h2⟩ := Option.map_eq_some_iff.1 h
       injection h2 with e1 e2
       subst e1 e2
       exact ⟨putRM_inv hi h1, id, rfl⟩
end Go.Proofs.YtcibkdbpicledaaGreatDoor
namespace Go.Proofs.YtcibkdbpicledaaGreatDoor
open Go.RowKit Go.BigFrame Go.Maps Go.WideMaps Lf
def jnV (ps : Nat) (tu : Bool) : Value := .agg #[PV ps, .bool tu]
theorem rb_pick {w : World} {bj ps : Nat} {tu : Bool} (hb : w.heap[bj]? = some (.cells #[PV ps, .bool tu] 324 (0, 0))) (a b : Nat) :
 Calls Tryz.prog 264 #[.int .u64 a, .int .u64 b, PV bj] w fun e w' => e = .returned (.tuple #[.int .u64 (if tu = true then b else a : Nat), .int .u64 (if tu = true then a else b : Nat)]) ∧ w = w' := by
 obtain ⟨c0, c1⟩ := cells2 hb
 clear hb
 cases tu
 all_goals
  go_enter Tryz.func264, Tryz.ntmps264
  go_wp2_with fail
  go_ret2
  exact ⟨rfl, rfl⟩
theorem rb_sides {w : World} {ps : Nat} {S : St} {Y : Nat → Prop} (h : StOn w ps S Y) (hi : Inv S) (tu : Bool) (hh : Nat) (hl : hh < 18446744073709551616) :
 Calls Tryz.prog 251 #[jnV ps tu, .int .u64 hh] w fun e w' => e = .returned (.tuple #[.int .u64 (sidesT S tu hh).1, .int .u64 (sidesT S tu hh).2]) ∧ Below w.heap.size w w' := by
 have q0 := heap_alloc_new w (.cells #[PV ps, .bool tu] 324)
 have B0 := (Below.refl w.heap.size w).alloc (Nat.le_refl _) (.cells #[PV ps, .bool tu] 324)
 have hg := rb_get (h.below B0) hi hh hl
 unfold sidesT
 obtain ⟨⟨⟨k0, k1, k2, k3, k4, k5⟩, er⟩, hE⟩ : ∃ r, getNode S hh = r := ⟨_, rfl⟩
 rw [hE] at hg ⊢
 unfold ndV at hg
 simp only at hg ⊢
 unfold jnV
 have hpk := fun (W : World) (hW : W.heap[w.heap.size]? = some (.cells #[PV ps, .bool tu] 324 (0, 0))) => rb_pick hW k2 k3
 have hen : ∀ (args : Array Value) (w : World), (callFunc 264 args).run Tryz.prog w = .ok (.enter 264 args) w := fun args w => by go_simp
 have HG := kq4 hg hpk q0 B0
 clear hg hpk h hi hE q0 B0
 go_enter Tryz.func251, Tryz.ntmps251
 go_wp2_with fail
 refine HG.out.1.mono ?_
 rintro e w1 ⟨rfl, hb1⟩
 have q1 := (hb1.block w.heap.size (by simp)).trans HG.out.2.2.1
 have B1 := HG.out.2.2.2.trans (hb1.mono (by simp))
 have r2 := (((Below.refl w1.heap.size w1).alloc (Nat.le_refl _) (.cells #[.int .u64 k0, .int .u64 k1, .int .u64 k2, .int .u64 k3, .int .u64 k4, .int .u64 k5] 232)).block w.heap.size (gl q1)).trans q1
 have B2 := B1.alloc B1.size (.cells #[.int .u64 k0, .int .u64 k1, .int .u64 k2, .int .u64 k3, .int .u64 k4, .int .u64 k5] 232)
 have H2 := kq2 r2 B2
 clear hb1 q1 B1 r2 B2
 go_wp2_with fail
 refine (HG.out.2.1 _ H2.out.1).mono ?_
 rintro e w2 ⟨rfl, rfl⟩
 cases tu
 all_goals
  simp only [if_true, if_false, Bool.false_eq_true]
  go_wp2_with fail
  go_ret2
  exact ⟨rfl, H2.out.2⟩
theorem rb_jput {w : World} {ps : Nat} {S S' : St} {Y : Nat → Prop} (h : StOn w ps S Y) (hi : Inv S) (tu : Bool) (hh a b : Nat) (c : Bool) (hl : hh < 18446744073709551616) (hal : a < 18446744073709551616) (hbl : b < 18446744073709551616) (hp : putJ S tu hh a b c = some S') :
 Calls Tryz.prog 252 #[jnV ps tu, .int .u64 hh, .int .u64 a, .int .u64 b, .bool c] w fun e w' => e = .returned (.int .u64 hh) ∧ StOn w' ps S' Y ∧ Keep Y w w' := by
 have B0 := (Below.refl w.heap.size w).alloc (Nat.le_refl _) (.cells #[PV ps, .bool tu] 324)
 unfold putJ at hp
 unfold jnV
 cases tu with
 | false =>
  have hq := rb_put (h.below B0) hi hh a b c hl hal hbl (by simpa using hp)
  have HG := kq2 hq (Keep.of_below B0 h.yl)
  clear hq B0 h hi hp
  go_enter Tryz.func252, Tryz.ntmps252
  go_wp2_with fail
  refine HG.out.1.mono ?_
  rintro e w1 ⟨rfl, h1, k1⟩
  have H1 := kq2 h1 (HG.out.2.trans k1)
  clear h1 k1
  go_wp2_with fail
  go_ret
  exact ⟨rfl, H1.out⟩
 | true =>
  have hq := rb_put (h.below B0) hi hh b a c hl hbl hal (by simpa using hp)
  have HG := kq2 hq (Keep.of_below B0 h.yl)
  clear hq B0 h hi hp
  go_enter Tryz.func252, Tryz.ntmps252
  go_wp2_with fail
  refine HG.out.1.mono ?_
  rintro e w1 ⟨rfl, h1, k1⟩
  have H1 := kq2 h1 (HG.out.2.trans k1)
  clear h1 k1
  go_wp2_with fail
  go_ret
  exact ⟨rfl, H1.out⟩
theorem rb_check0 {w : World} {ps : Nat} {S : St} {Y : Nat → Prop} (h : StOn w ps S Y) (hi : Inv S) :
 Calls Tryz.prog 200 #[PV ps, .int .u64 0] w fun e w' => e = .returned (.int .i64 0) ∧ Below w.heap.size w w' := by
 have hc := walk_check0 h hi
 have hl := fun W (hW : Below w.heap.size w W) => walk_list0 (h.below hW)
 have HG := kq2 hc hl
 clear hc hl h hi
 go_enter Tryz.func200, Tryz.ntmps200
 go_wp2_with fail
 refine HG.out.1.mono ?_
 rintro e w1 ⟨rfl, hb1⟩
 have H1 := Lib.hid hb1
 clear hb1
 go_wp2_with fail
 refine (HG.out.2 _ H1.out).mono ?_
 rintro e w2 ⟨rfl, hb2⟩
 have H2 := Lib.hid (H1.out.trans (hb2.mono H1.out.size))
 clear hb2
 go_wp2_with fail
 go_loopw [7, 8, 9, 10, 21] (fun _ _ _ _ k wr => k = .int .i64 0 ∧ wr = w2) (fun _ _ _ _ _ _ => 0)
 case atStart => exact ⟨rfl, rfl⟩
 case round =>
  obtain ⟨rfl, rfl⟩ := hrel
  go_wp2_with fail
  go_ret
  exact ⟨rfl, H2.out⟩
theorem checks_red : ChecksAs 200 where
 enter args w := by go_simp
 call h hi := rb_check0 h hi
theorem way_red : WayOk 2 199 200 := by
 intro W
 simp only [fnV]
 go_enter Tryz.func184, Tryz.ntmps184
 go_wp2_with fail
 exact bodyPost_ret (v := .tuple #[.agg #[.func (.func 199) #[] #[], .func (.func 200) #[] #[]], .bool true]) (by simp [results, Tryz.f184, go_sem]) rfl ⟨rfl, (Below.refl _ _).alloc (Nat.le_refl _) _⟩
