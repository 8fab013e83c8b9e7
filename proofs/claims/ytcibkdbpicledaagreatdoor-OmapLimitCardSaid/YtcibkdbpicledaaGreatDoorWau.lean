import Derived.Test.YtcibkdbpicledaaGreatDoorWat
set_option maxRecDepth 100000
set_option maxHeartbeats 3200000
namespace Go.Proofs.YtcibkdbpicledaaGreatDoor
open Lf Tr
structure BnAt (S : St) (t h : Nat) (n : BN) : Prop where
 ok : BnOk t n
 lt : h < 18446744073709551616
 len : S.len h = (6 * t, 0)
 get : ∀ k, k < 6 * t → S.get h k = (wAt t n n.keys.length n.kids.length k, 0)
 words : ∀ v ∈ bnWords t n, v < 18446744073709551616
theorem bnAt_of {S : St} {o : Nat → Nat} (hf : Fit S o) {t h : Nat} {n : BN} (hl : reco S h = some (bnWords t n)) (hn : BnOk t n) : BnAt S t h n := by
 have h1 := look_len hf.tab hl
 have h2 := look_ok hf hl
 rw [bnWords_length] at h1
 refine ⟨hn, h2.2.1, h1, fun k hk => ?_, h2.2.2.2⟩
 rw [look_get hf hl (by rw [bnWords_length]; exact hk)]
 unfold bnWords
 rw [List.getD_eq_getElem?_getD, List.getElem?_map, List.getElem?_range hk]
 rfl
structure BnLt (n : BN) : Prop where
 keys : ∀ v ∈ n.keys, v < 18446744073709551616
 vals : ∀ v ∈ n.vals, v < 18446744073709551616
 kids : ∀ v ∈ n.kids, v < 18446744073709551616
 size : n.size < 18446744073709551616
theorem getD_lt {l : List Nat} (h : ∀ v ∈ l, v < 18446744073709551616) (k : Nat) : l.getD k 0 < 18446744073709551616 := by
 rw [List.getD_eq_getElem?_getD]
 by_cases hk : k < l.length
 · rw [List.getElem?_eq_getElem hk]; exact h _ (List.getElem_mem hk)
 · rw [List.getElem?_eq_none (by omega)]; decide
theorem bnWords_lt {t : Nat} {n : BN} (h : BnLt n) (hk : n.keys.length < 18446744073709551616) : ∀ v ∈ bnWords t n, v < 18446744073709551616 := by
 intro v hv
 unfold bnWords at hv
 obtain ⟨j, _, rfl⟩ := List.mem_map.1 hv
 have h1 := getD_lt h.keys ((j - 2) / 2)
 have h2 := getD_lt h.vals ((j - 2) / 2)
 have h3 := getD_lt h.kids (j - 4 * t)
 have h4 := h.size
 unfold wAt
 repeat (first | split | omega)
namespace Bt
def bn {d : Nat} (x : Bt (d + 1)) : BN := ⟨(Bn.es x).map (·.kh), (Bn.es x).map (·.vh), (Bn.ks x).map hd, (its x).length⟩
def At (S : St) (t : Nat) : {d : Nat} → Bt d → Prop
 | 0, x => nomatch x
 | _ + 1, x => reco S (Bn.h x) = some (bnWords t (bn x)) ∧ ∀ k ∈ Bn.ks x, At S t k
theorem At.hd_ok {S : St} {o : Nat → Nat} (hf : Fit S o) {t : Nat} : ∀ {d : Nat} {x : Bt d}, At S t x → hd x ≠ 0 ∧ hd x < 18446744073709551616
 | 0, x, _ => nomatch x
 | d + 1, x, h => by
  have := look_ok hf h.1
  refine ⟨fun e => ?_, this.2.1⟩
  have e : Bn.h x = 0 := e
  have := this.1
  omega
theorem At.bnok {S : St} {o : Nat → Nat} (hf : Fit S o) {t : Nat} (t1 : 2 ≤ t) (t2 : t ≤ 16) {d : Nat} {x : Bt (d + 1)} (h : At S t x) (ok : Ok t x) : BnOk t (bn x) := by
 refine ⟨t1, t2, by unfold bn; rw [List.length_map]; exact ok.1, by unfold bn; rw [List.length_map, List.length_map], ?_⟩
 have hk := ok.2.1
 unfold bn
 simp only [List.length_map]
 by_cases hd0 : d = 0
 · rw [if_pos hd0] at hk; exact Or.inl hk
 · rw [if_neg hd0] at hk
   refine Or.inr ⟨hk, ?_⟩
   rw [Bool.eq_false_iff]
   intro hc
   obtain ⟨k, hkm, e⟩ := List.mem_map.1 (List.contains_iff_mem.1 hc)
   exact (At.hd_ok hf (h.2 k hkm)).1 e
theorem At.read {S : St} {o : Nat → Nat} (hf : Fit S o) {t : Nat} (t1 : 2 ≤ t) (t2 : t ≤ 16) {d : Nat} {x : Bt (d + 1)} (h : At S t x) (ok : Ok t x) : BnAt S t (hd x) (bn x) := bnAt_of hf h.1 (h.bnok hf t1 t2 ok)
theorem At.frame {S S' : St} {t : Nat} : ∀ {d : Nat} {x : Bt d}, At S t x → (∀ h ∈ nodes x, reco S' h = reco S h) → At S' t x
 | 0, x, _, _ => nomatch x
 | d + 1, x, h, hf => by
  refine ⟨(hf _ (List.mem_cons_self ..)).trans h.1, fun k hk => (h.2 k hk).frame fun y hy => hf y (List.mem_cons_of_mem _ ?_)⟩
  exact List.mem_flatten.2 ⟨_, List.mem_map.2 ⟨k, hk, rfl⟩, hy⟩
theorem At.rec {S : St} {t : Nat} : ∀ {d : Nat} {x : Bt d}, At S t x → ∀ h ∈ nodes x, ∃ n, reco S h = some (bnWords t n)
 | 0, x, _, _, _ => nomatch x
 | d + 1, x, h, y, hy => by
  rcases List.mem_cons.1 hy with rfl | hy
  · exact ⟨_, h.1⟩
  · obtain ⟨l, hl, hy⟩ := List.mem_flatten.1 hy
    obtain ⟨k, hk, rfl⟩ := List.mem_map.1 hl
    exact (h.2 k hk).rec y hy
theorem bnLt_of {S : St} {o : Nat → Nat} (hf : Fit S o) {t d : Nat} {x : Bt (d + 1)} (hb : ∀ e ∈ Bn.es x, e.kh < 18446744073709551616 ∧ e.vh < 18446744073709551616) (hk : ∀ k ∈ Bn.ks x, At S t k) (hl : (its x).length < 18446744073709551616) : BnLt (bn x) := by
 refine ⟨fun v hv => ?_, fun v hv => ?_, fun v hv => ?_, hl⟩
 · obtain ⟨e, he, rfl⟩ := List.mem_map.1 hv; exact (hb e he).1
 · obtain ⟨e, he, rfl⟩ := List.mem_map.1 hv; exact (hb e he).2
 · obtain ⟨k, hk1, rfl⟩ := List.mem_map.1 hv; exact (At.hd_ok hf (hk k hk1)).2
theorem blobs_lt {S : St} {o : Nat → Nat} (hf : Fit S o) {e : It} (h : Blobs S e) : e.kh < 18446744073709551616 ∧ e.vh < 18446744073709551616 := ⟨(look_ok hf h.k).2.1, (look_ok hf h.v).2.1⟩
theorem mem_weave_kid : ∀ (es : List It) (ks : List (List It)), (ks = [] ∨ ks.length = es.length + 1) → ∀ k ∈ ks, ∀ e ∈ k, e ∈ weave es ks
 | _, [], _, k, hk, _, _ => by cases hk
 | [], [a], _, k, hk, e, he => by
  rcases List.mem_cons.1 hk with rfl | hk
  · exact he
  · cases hk
 | [], _ :: _ :: _, h, _, _, _, _ => by simp at h
 | f :: es, a :: ks, h, k, hk, e, he => by
  rw [weave]
  rcases List.mem_cons.1 hk with rfl | hk
  · exact List.mem_append_left _ he
  · exact List.mem_append_right _ (List.mem_cons_of_mem _ (mem_weave_kid es ks (Or.inr (by simpa using h)) k hk e he))
theorem kid_its {d : Nat} {x : Bt (d + 1)} {t : Nat} (h : OkN t x) {k : Bt d} (hk : k ∈ Bn.ks x) {e : It} (he : e ∈ its k) : e ∈ its x := by
 rw [its_mk]
 refine mem_weave_kid _ _ ?_ (its k) (List.mem_map.2 ⟨k, hk, rfl⟩) e he
 rcases h.rows with ⟨h0, _⟩ | ⟨h0, _⟩
 · exact Or.inl h0
 · exact Or.inr h0
end Bt
end Go.Proofs.YtcibkdbpicledaaGreatDoor
namespace Go.Proofs.YtcibkdbpicledaaGreatDoor
open Go.RowKit Go.BigFrame Go.Maps Go.WideMaps Lf Tr
def trB (ps t : Nat) : Value := .agg #[PV ps, .int .i64 t]
theorem bt_key {w : World} {ps : Nat} {S : St} {Y : Nat → Prop} (h : StOn w ps S Y) (hi : Inv S) (t hh : Nat) (hl : hh < 18446744073709551616) {k : List UInt8} (hg : getBlob S hh = (k, 0)) :
 Calls Tryz.prog 162 #[trB ps t, .int .u64 hh] w fun e w' => e = .returned (SV k) ∧ Below w.heap.size w w' := by
 have hb1 : Below w.heap.size w (w.alloc (.cells #[PV ps, .int .i64 t] 254)) := (Below.refl _ w).alloc (Nat.le_refl _) _
 have hg0 := hg
 have hg := blob_get (h.below hb1) hi hh hl (by rw [hg]; show (0 : Nat) ≠ 8; decide)
 rw [hg0] at hg
 unfold trB
 have HG := kq2 hg hb1
 clear hg hb1 h hi hg0
 go_enter Tryz.func162, Tryz.ntmps162
 go_wp2_with fail
 refine HG.out.1.mono ?_
 rintro e w1 ⟨rfl, hb⟩
 have HB := Lib.hid (HG.out.2.trans (hb.mono HG.out.2.size))
 clear hb
 go_wp2_with fail
 go_ret
 exact ⟨rfl, HB.out⟩
theorem bt_place1 {w : World} {ps : Nat} {S : St} {Y : Nat → Prop} (h : StOn w ps S Y) (hi : Inv S) (t hh : Nat) (hl : hh < 18446744073709551616) {k : List UInt8} (hg : getBlob S hh = (k, 0)) (key : List UInt8) {b : Nat} (hb : w.heap[b]? = some (.cells #[PV ps, .int .i64 t] 254 (0, 0))) :
 Calls Tryz.prog 338 #[.int .u64 hh, SV key, PV b] w fun e w' => e = .returned (.int .i64 (cmpB k key)) ∧ Below w.heap.size w w' := by
 have hk := bt_key h hi t hh hl hg
 unfold trB at hk
 obtain ⟨c0, c1⟩ := cells2 hb
 have HG := Lib.hid hk
 have HC := fun W => Lib.hid (text_compare k key W)
 clear hk h hi hg hb
 go_enter Tryz.func338, Tryz.ntmps338
 go_wp2_with fail
 refine HG.out.mono ?_
 rintro e w1 ⟨rfl, hb⟩
 have HB := Lib.hid hb
 clear hb
 go_wp2_with fail
 refine (HC _).out.mono ?_
 rintro e w2 ⟨rfl, rfl⟩
 go_wp2_with fail
 go_ret
 exact ⟨rfl, HB.out⟩
def hereB (key : List UInt8) (es : List It) : Bool := match es[belowB key es]? with | some e => decide (e.k = key) | none => false
theorem below_of {key : List UInt8} {es : List It} {k : Nat} (h1 : ∀ (j : Nat) (h : j < es.length), j < k → cmpB es[j].k key < 0) (h2 : ∀ (j : Nat) (h : j < es.length), k ≤ j → 0 ≤ cmpB es[j].k key) (hk : k ≤ es.length) : belowB key es = k := by
 conv => lhs; rw [← List.take_append_drop k es]
 rw [belowB_append, belowB_all, belowB_none, List.length_take]
 · omega
 · intro d hd
   obtain ⟨j, hj, rfl⟩ := List.mem_iff_getElem.1 hd
   rw [List.getElem_drop]
   have := h2 (k + j) (by rw [List.length_drop] at hj; omega) (by omega)
   omega
 · intro d hd
   obtain ⟨j, hj, rfl⟩ := List.mem_iff_getElem.1 hd
   rw [List.getElem_take]
   rw [List.length_take] at hj
   exact h1 _ _ (by omega)
theorem handles_search {w : World} {v : Value} {es : List It} (h : HRow w v (es.map (·.kh))) (hl : es.length ≤ 100000) (hs : es.Pairwise klt) (key : List UInt8) {f b : Nat} (hen : ∀ (args : Array Value) (w : World), (callFunc f args).run Tryz.prog w = .ok (.enter f args) w)
 (hcall : ∀ W, Below w.heap.size w W → ∀ (j : Nat) (hj : j < es.length), Calls Tryz.prog f #[.int .u64 (es[j].kh : Nat), SV key, PV b] W fun e w' => e = .returned (.int .i64 (cmpB es[j].k key)) ∧ Below W.heap.size W w') :
 Calls Tryz.prog 336 #[v, SV key, .func (.func f) #[] #[PV b]] w fun e w' => e = .returned (.tuple #[.int .i64 (belowB key es : Nat), .bool (hereB key es)]) ∧ Below w.heap.size w w' := by
 obtain ⟨A, c, rfl, hc⟩ := h
 have hc : ∀ (i : Nat) (h : i < es.length), ∃ g o, A = some ⟨g, o, none⟩ ∧ w.cell? ⟨g, o + i, none⟩ = some (.int .u64 (es[i].kh : Nat)) := fun i h => by
  obtain ⟨g, o, e1, e2⟩ := hc i (by simpa using h)
  rw [List.getElem_map] at e2
  exact ⟨g, o, e1, e2⟩
 rw [List.length_map]
 obtain ⟨n, hn⟩ : ∃ n, es.length = n := ⟨_, rfl⟩
 have hup : ∀ (i j : Nat) (hi : i < es.length) (hj : j < es.length), i ≤ j → cmpB es[j].k key < 0 → cmpB es[i].k key < 0 := fun i j hi hj hij hlt => by
  rcases Nat.lt_or_ge i j with h | h
  · exact cmpB_trans (List.pairwise_iff_getElem.1 hs i j hi hj h) hlt
  · obtain rfl : i = j := by omega
    exact hlt
 rw [hn] at hl ⊢
 have H := kq4 hc hcall hup hn
 clear hc hcall hup hs
 go_enter Tryz.func336, Tryz.ntmps336
 go_wp2_with fail
 go_loopw [9, 10] (fun s9 s10 wr => ∃ lo hi : Nat, lo ≤ hi ∧ hi ≤ n ∧ s9 = .int .i64 lo ∧ s10 = .int .i64 hi ∧ Hid (Below w.heap.size w wr ∧ (∀ (j : Nat) (h : j < es.length), j < lo → cmpB es[j].k key < 0) ∧ (∀ (j : Nat) (h : j < es.length), hi ≤ j → 0 ≤ cmpB es[j].k key))) (fun s9 s10 _ => (intOf s10).toNat - (intOf s9).toNat)
 case atStart => exact ⟨0, n, by omega, by omega, rfl, rfl, Below.refl _ _, fun _ _ h => absurd h (by omega), fun j h1 h2 => absurd h1 (by omega)⟩
 case round =>
  obtain ⟨lo, hi, hlh, hin, rfl, rfl, I⟩ := hrel
  by_cases hlt : lo < hi
  · obtain ⟨m, hm⟩ : ∃ m, (lo + hi) / 2 = m := ⟨_, rfl⟩
    have hme : m < es.length := by omega
    have hlt' : (lo : Int) < hi := by omega
    have q1 : IntKind.i64.wrap ((lo : Int) + hi) = (lo : Int) + hi := IntWalk.i64_in _ (by omega)
    obtain ⟨g, o, rfl, c1⟩ := H.out.1 m hme
    have c2 := (I.out.1.cell (p := ⟨g, o + m, none⟩) (hcell_lt c1)).trans c1
    have hcl := H.out.2.1 wr I.out.1 m hme
    have hmI : ((lo : Int) + hi) / 2 = (m : Nat) := by omega
    have hmn : (m : Int) < n := by omega
    have HK := kq2 hcl hm
    obtain ⟨e, he⟩ : ∃ e, es[m] = e := ⟨_, rfl⟩
    have HE := Lib.hid he
    rw [he] at c2 HK
    clear hcl he c1 hm
    by_cases hcp : cmpB e.k key < 0
    · go_wp2_with fail
      refine HK.out.1.mono ?_
      rintro e w' ⟨rfl, hb⟩
      have hI2 : Below w.heap.size w w' ∧ (∀ (j : Nat) (h : j < es.length), j < m + 1 → cmpB es[j].k key < 0) ∧ (∀ (j : Nat) (h : j < es.length), hi ≤ j → 0 ≤ cmpB es[j].k key) :=
       ⟨I.out.1.trans (hb.mono I.out.1.size), fun j h1 h2 => H.out.2.2.1 j m h1 hme (by omega) (by rw [HE.out]; exact hcp), I.out.2.2⟩
      have HI := Lib.hid hI2
      clear hI2 hb
      go_wp2_with fail
      go_roundw
      case rel => exact ⟨m + 1, hi, by have := HK.out.2; omega, hin, by simp, rfl, HI⟩
      case measure => have := HK.out.2; simp [intOf]; omega
    · go_wp2_with fail
      refine HK.out.1.mono ?_
      rintro e w' ⟨rfl, hb⟩
      have hI2 : Below w.heap.size w w' ∧ (∀ (j : Nat) (h : j < es.length), j < lo → cmpB es[j].k key < 0) ∧ (∀ (j : Nat) (h : j < es.length), m ≤ j → 0 ≤ cmpB es[j].k key) :=
       ⟨I.out.1.trans (hb.mono I.out.1.size), I.out.2.1, fun j h1 h2 => Int.not_lt.1 fun hx => by have := H.out.2.2.1 m j hme h1 h2 hx; rw [HE.out] at this; omega⟩
      have HI := Lib.hid hI2
      clear hI2 hb
      go_wp2_with fail
      go_roundw
      case rel => exact ⟨lo, m, by have := HK.out.2; omega, by omega, rfl, rfl, HI⟩
      case measure => have := HK.out.2; simp [intOf]; omega
  · obtain rfl : lo = hi := by omega
    have hlt' : ¬ (lo : Int) < lo := by omega
    have hbe := below_of I.out.2.1 I.out.2.2 (by rw [H.out.2.2.2]; exact hin)
    by_cases hln : lo < n
    · have hle : lo < es.length := by omega
      have hln' : (lo : Int) < n := by omega
      obtain ⟨g, o, rfl, c1⟩ := H.out.1 lo hle
      have c2 := (I.out.1.cell (p := ⟨g, o + lo, none⟩) (hcell_lt c1)).trans c1
      have hcl := H.out.2.1 wr I.out.1 lo hle
      have hhe : hereB key es = decide (cmpB es[lo].k key = 0) := by
       unfold hereB
       rw [hbe, List.getElem?_eq_getElem hle]
       exact decide_eq_decide.2 ⟨fun e => by rw [e, cmpB_refl], cmpB_eq0⟩
      have HK := kq3 hcl hbe hhe
      obtain ⟨e, he⟩ : ∃ e, es[lo] = e := ⟨_, rfl⟩
      rw [he] at c2 HK
      clear hcl he c1 hbe hhe
      generalize hcq : cmpB e.k key = q at *
      clear hcq
      by_cases hq0 : q = 0
      · subst hq0
        go_wp2_with fail
        refine HK.out.1.mono ?_
        rintro e' w' ⟨rfl, hb⟩
        have HI := Lib.hid (I.out.1.trans (hb.mono I.out.1.size))
        clear hb
        go_wp2_with fail
        go_ret2
        exact ⟨by rw [HK.out.2.1, HK.out.2.2]; rfl, HI.out⟩
      · have hq1 : (q == 0) = false := by simp; exact hq0
        go_wp2_with fail
        refine HK.out.1.mono ?_
        rintro e' w' ⟨rfl, hb⟩
        have HI := Lib.hid (I.out.1.trans (hb.mono I.out.1.size))
        clear hb
        go_wp2_with fail
        go_ret2
        exact ⟨by rw [HK.out.2.1, HK.out.2.2, decide_eq_false hq0]; rfl, HI.out⟩
    · have hln' : ¬ (lo : Int) < n := by omega
      have hhe : hereB key es = false := by
       unfold hereB
       rw [hbe, List.getElem?_eq_none (by omega)]
      have HK := kq2 hbe hhe
      clear hbe hhe
      go_wp2_with fail
      go_ret2
      exact ⟨by rw [HK.out.1, HK.out.2]; rfl, I.out.1⟩
structure KeysAt (S : St) (es : List It) : Prop where
 lt : ∀ e ∈ es, e.kh < 18446744073709551616
 get : ∀ e ∈ es, getBlob S e.kh = (e.k, 0)
theorem bt_place {w : World} {ps : Nat} {S : St} {Y : Nat → Prop} (h : StOn w ps S Y) (hi : Inv S) (t : Nat) {es : List It} {vk vv vc : Value} {sz : Nat} (hk : HRow w vk (es.map (·.kh))) (hl : es.length ≤ 100000) (hs : es.Pairwise klt) (he : KeysAt S es) (key : List UInt8) :
 Calls Tryz.prog 328 #[trB ps t, bnV vk vv vc sz, SV key] w fun e w' => e = .returned (.tuple #[.int .i64 (belowB key es : Nat), .bool (hereB key es)]) ∧ Below w.heap.size w w' := by
 have B0 := ((Below.refl w.heap.size w).alloc (Nat.le_refl _) (.cells #[PV ps, .int .i64 t] 254)).alloc (by simp) (.cells #[vk, vv, vc, .int .u64 sz] 286)
 have z1 : (w.alloc (.cells #[PV ps, .int .i64 t] 254)).heap.size = w.heap.size + 1 := by simp
 have q1 := heap_alloc_new w (.cells #[PV ps, .int .i64 t] 254)
 have q2 := heap_alloc_new (w.alloc (.cells #[PV ps, .int .i64 t] 254)) (.cells #[vk, vv, vc, .int .u64 sz] 286)
 have q3 := (((Below.refl (w.alloc (.cells #[PV ps, .int .i64 t] 254)).heap.size (w.alloc (.cells #[PV ps, .int .i64 t] 254))).alloc (Nat.le_refl _) (.cells #[vk, vv, vc, .int .u64 sz] 286)).block w.heap.size (by simp)).trans q1
 rw [z1] at q2
 have hen : ∀ (args : Array Value) (w : World), (callFunc 338 args).run Tryz.prog w = .ok (.enter 338 args) w := fun args w => by go_simp
 generalize hW : (w.alloc (.cells #[PV ps, .int .i64 t] 254)).alloc (.cells #[vk, vv, vc, .int .u64 sz] 286) = W0 at *
 have hse := handles_search (hk.below B0) hl hs key (f := 338) (b := w.heap.size) hen fun W hW j hj => bt_place1 (h.below (B0.trans (hW.mono B0.size))) hi t _ (he.lt _ (List.getElem_mem hj)) (he.get _ (List.getElem_mem hj)) key ((hW.block w.heap.size (gl q3)).trans q3)
 obtain ⟨c0, c1, c2, c3⟩ := cells4 q2
 unfold trB bnV
 have HG := kq3 hse B0 hW
 clear hse B0 h hi hk he q1 q2 q3 hen hs
 go_enter Tryz.func328, Tryz.ntmps328
 have hW := HG.out.2.2
 go_wp2_with fail
 refine HG.out.1.mono ?_
 rintro e w1 ⟨rfl, hb⟩
 have HB := Lib.hid (HG.out.2.1.trans (hb.mono HG.out.2.1.size))
 clear hb
 go_wp2_with fail
 go_ret2
 exact ⟨rfl, HB.out⟩
end Go.Proofs.YtcibkdbpicledaaGreatDoor
namespace Go.Proofs.YtcibkdbpicledaaGreatDoor
open Go.RowKit Go.BigFrame Go.Maps Go.WideMaps Lf
open Go.Shelf
attribute [local go_sem] Oper.semAt_some
structure KpR (R : Nat → Prop) (W W' : World) : Prop where
 size : W.heap.size ≤ W'.heap.size
 block : ∀ k, R k → W'.heap[k]? = W.heap[k]?
theorem KpR.refl (R : Nat → Prop) (W : World) : KpR R W W := ⟨Nat.le_refl _, fun _ _ => rfl⟩
theorem KpR.trans {R : Nat → Prop} {A B C : World} (h : KpR R A B) (k : KpR R B C) : KpR R A C := ⟨Nat.le_trans h.size k.size, fun i hi => (k.block i hi).trans (h.block i hi)⟩
abbrev WordX := { x : Nat × Nat // x.1 ≤ 1000 ∧ x.2 < 18446744073709551616 }
abbrev encW (x : WordX) : Array Value := #[.int .i64 x.1.1, .int .u64 x.1.2]
abbrev valsW (l : List WordX) : List (Nat × Nat) := l.map (·.1)
def rowP (f : Nat → Nat) (n : Nat) : List (Nat × Nat) := (List.range n).map fun j => (j, f j)
theorem rowP_succ (f : Nat → Nat) (n : Nat) : rowP f (n + 1) = rowP f n ++ [(n, f n)] := by unfold rowP; rw [List.range_succ, List.map_append]; rfl
theorem rowP_length (f : Nat → Nat) (n : Nat) : (rowP f n).length = n := by simp [rowP]
theorem rowP_prefix (f : Nat → Nat) (k : Nat) : ∀ d, rowP f k <+: rowP f (k + d)
 | 0 => List.prefix_refl _
 | d + 1 => by
  refine (rowP_prefix f k d).trans ?_
  show rowP f (k + d) <+: rowP f (k + d + 1)
  rw [rowP_succ]
  exact List.prefix_append _ _
theorem all_stops {w : World} {B G c N : Nat} {f : Nat → Nat} {fr fr' : Nat × Nat} (hN : N ≤ 1000) (hf : ∀ j, j < N → f j < 18446744073709551616) (hB : w.heap[B]? = some (.cells #[.slice (some ⟨G, 0, none⟩) N c] 162 fr)) (hG : w.heap[G]? = some (.cells (rowV N f) 82 fr')) (R : Nat → Prop) (hRG : R G) :
 SeqStopsK Fence.wide 6 Tryz.prog 261 #[PV B] encW (KpR R) (fun xs => valsW xs = rowP f N) (fun pre => valsW pre <+: rowP f N) N w := fun l J Jx W hW hJ hJx hY h0 => by
 have hBl := (gl hB)
 have hGl := (gl hG)
 have hB1 : W.cell? ⟨B, 0, none⟩ = some (.slice (some ⟨G, 0, none⟩) N c) := by rw [cell_of_block ((hW.block B hBl).trans hB)]; rfl
 have hG1 := (hW.block G hGl).trans hG
 have HY := Lib.hid hY
 have HJ := kq2 hJ hJx
 have H0 := kq4 h0 hG1 hf hRG
 clear hY hJ hJx h0 hB hG hG1 hW hf hRG hBl hGl
 refine callsIn_of_wp Tryz.func261 rfl trivial ?_ rfl
 simp only [Tryz.ntmps261, List.size_toArray, List.length_cons, List.length_nil, Nat.reduceAdd, Nat.reduceSub, Array.replicate_succ, Array.replicate_zero, List.push_toArray, List.append_toArray, List.nil_append, List.cons_append]
 gi_wp2_with fail
 gi_loopw [3, 4, 7] (fun _ _ i wr => ∃ k : Nat, k ≤ N ∧ i = .int .i64 k ∧ Hid (KpR R W wr ∧ ∃ pX, valsW pX = rowP f k ∧ J pX wr)) (fun _ _ i _ => N - (intOf i).toNat)
 case atStart => exact ⟨0, by omega, rfl, KpR.refl _ _, [], rfl, H0.out.1⟩
 case round =>
  obtain ⟨k, hk, rfl, hin⟩ := hrel
  by_cases hlt : k < N
  · have hkl : (k : Int) < N := by omega
    have hrow := (hin.out.1.block G H0.out.2.2.2).trans H0.out.2.1
    have hc : wr.cell? ⟨G, k, none⟩ = some (.int .u64 (f k)) := by rw [cell_of_block hrow, rowV_get f hlt]
    have hfl := H0.out.2.2.1 k hlt
    obtain ⟨pX, hpX, hJX⟩ := hin.out.2
    obtain ⟨xX, hxX⟩ : ∃ xX : WordX, xX.1 = (k, f k) := ⟨⟨(k, f k), by omega, hfl⟩, rfl⟩
    have hpXl : pX.length = k := by
     have := congrArg List.length hpX
     rw [rowP_length] at this
     simpa using this
    obtain ⟨fn, tmps, assign, body, hy, hRd⟩ := HY.out pX xX wr hJX (by omega)
    have hpX2 : valsW (pX ++ [xX]) = rowP f (k + 1) := by rw [rowP_succ, ← hpX]; show (pX ++ [xX]).map (·.1) = _; rw [List.map_append]; simp [hxX]
    have HPX := kq2 hpX2 hlt
    dsimp only [encW] at hy
    rw [hxX] at hy
    clear hpX2 hpX hpXl hJX hxX hrow hfl
    generalize f k = x at *
    gi_wp2_with fail
    refine hRd.mono ?_
    rintro e w4 (⟨rfl, hJ4, hk4'⟩ | ⟨rfl, hJx4⟩)
    · have H4 := kq2 (hin.out.1.trans hk4') hJ4
      clear hJ4 hk4' hy hRd hc
      gi_wp2_with fail
      go_roundw
      case rel => exact ⟨k + 1, HPX.out.2, by go_num, H4.out.1, _, HPX.out.1, H4.out.2⟩
      case measure => have := HPX.out.2; simp [intOf]; omega
    · have H4 := Lib.hid hJx4
      have hpre : rowP f (k + 1) <+: rowP f N := by
       obtain ⟨d, hd⟩ : ∃ d, N = k + 1 + d := ⟨N - (k + 1), by have := HPX.out.2; omega⟩
       rw [hd]
       exact rowP_prefix f (k + 1) d
      clear hJx4 hy hRd hc
      gi_wp2_with fail
      refine bodyPost_ret (results_none rfl _ _ _) rfl ?_
      exact ⟨⟨_, rfl⟩, .inr ⟨_, by rw [HPX.out.1]; exact hpre, H4.out⟩⟩
  · obtain rfl : k = N := by omega
    gi_wp2
    go_end0
    obtain ⟨pX, hpX, hJX⟩ := hin.out.2
    exact ⟨⟨_, rfl⟩, .inl ⟨_, hpX, hJX⟩⟩
attribute [local go_sem] Oper.semAt_some
theorem StIn.own {w w' : World} {ps pa pm ph pt : Nat} {v : Value} {S : St} {Y : Nat → Prop} (h : StIn w ps pa pm ph pt v S Y) (hs : w.heap.size ≤ w'.heap.size) (hc : ∀ (k : Nat) (o : Obj), w.heap[k]? = some o → (o.isCells = true ∨ k = pm) → w'.heap[k]? = some o) : StIn w' ps pa pm ph pt v S Y := by
 obtain ⟨blk, hb⟩ := h.heap.slab
 have c1 : ∀ {k : Nat} {cs : Array Value} {t : TypeId} {fr : Nat × Nat}, w.heap[k]? = some (.cells cs t fr) → w'.heap[k]? = w.heap[k]? := fun e => (hc _ _ e (Or.inl rfl)).trans e.symm
 have ht : Tab64 w' := fun j hj => by
  have := h.heap.tab j hj
  have hx : ∃ cs t fr, w.heap[tabB]? = some (.cells cs t fr) := by
   unfold World.cell? at this
   split at this
   · rename_i heq; exact ⟨_, _, _, heq⟩
   · cases this
  obtain ⟨cs, t, fr, hx⟩ := hx
  rw [← this]
  exact World.cell?_of_block (c1 hx)
 refine ⟨(c1 h.hd).trans h.hd, ⟨⟨blk, hb.of_keep hs fun k hk hkk => ?_⟩, (c1 h.heap.hp).trans h.heap.hp, h.heap.yh, ht, h.heap.yt⟩, h.tab.of_keep (c1 h.tab.hd) fun b e => ?_, h.off⟩
 · rcases hkk with rfl | rfl | ⟨p, hp, rfl⟩
   · exact c1 hb.hd
   · obtain ⟨es, ck, hm⟩ := hb.map_block
     exact (hc _ _ hm (Or.inr rfl)).trans hm.symm
   · obtain ⟨l, hl⟩ := keys_mem.1 hp
     exact c1 (hb.pg _ hl)
 · rcases h.tab.row.2 with ⟨e0, _⟩ | ⟨g, cap, cur, e0, _, hg, _⟩
   · rw [e0] at e; cases e
   · rw [e0] at e
     injection e with e
     have e : g = b := e
     subst e
     exact c1 hg
theorem StIn.full {w : World} {ps pa pm ph pt : Nat} {v : Value} {S : St} {Y : Nat → Prop} (h : StIn w ps pa pm ph pt v S Y) : StIn w ps pa pm ph pt v S (fun k => Y k ∨ (k ≠ pm ∧ ∃ o, w.heap[k]? = some o ∧ o.isCells = false)) := by
 obtain ⟨blk, hb⟩ := h.heap.slab
 have hn : ∀ {k : Nat} {cs : Array Value} {t : TypeId} {fr : Nat × Nat}, w.heap[k]? = some (.cells cs t fr) → ¬ ∃ o, w.heap[k]? = some o ∧ o.isCells = false := fun e ⟨o, h1, h2⟩ => by
  rw [e] at h1
  injection h1 with h1
  rw [← h1] at h2
  cases h2
 have hlt : ∀ {k : Nat}, (∃ o, w.heap[k]? = some o ∧ o.isCells = false) → k < w.heap.size := fun ⟨o, h1, _⟩ => (gl h1)
 have hall : ∀ k, YS (fun k => Y k ∨ (k ≠ pm ∧ ∃ o, w.heap[k]? = some o ∧ o.isCells = false)) ps ph pt v k → YS Y ps ph pt v k ∨ (k ≠ pm ∧ ∃ o, w.heap[k]? = some o ∧ o.isCells = false) := fun k hk => by
  rcases hk with (hk | hk) | hk
  · exact Or.inl (Or.inl hk)
  · exact Or.inr hk
  · exact Or.inl (Or.inr hk)
 refine ⟨h.hd, ⟨⟨blk, hb.wf, hb.hd, hb.map, hb.pg, hb.inj, fun hk => ?_, fun hk => ?_, fun p hp hk => ?_, fun k hk => ?_⟩, h.heap.hp, Or.inr (Or.inr (Or.inl rfl)), h.heap.tab, Or.inr (Or.inr (Or.inr (Or.inl rfl)))⟩, h.tab, fun k hk => ?_⟩
 · rcases hall _ hk with hk | ⟨_, hk⟩
   · exact hb.ya hk
   · exact hn hb.hd hk
 · rcases hall _ hk with hk | ⟨hk, _⟩
   · exact hb.ym hk
   · exact hk rfl
 · rcases hall _ hk with hk | ⟨_, hk⟩
   · exact hb.yp p hp hk
   · obtain ⟨l, hl⟩ := keys_mem.1 hp
     exact hn (hb.pg _ hl) hk
 · rcases hall _ hk with hk | ⟨_, hk⟩
   · exact hb.yl k hk
   · exact hlt hk
 · rcases hk with (hk | ⟨_, hk⟩) | hk
   · exact h.off k (Or.inl hk)
   · refine ⟨?_, fun e => ?_⟩
     · rintro rfl; exact hn h.tab.hd hk
     · rcases h.tab.row.2 with ⟨e0, _⟩ | ⟨g, cap, cur, e0, _, hg, _⟩
       · rw [e0] at e; cases e
       · rw [e0] at e
         injection e with e
         have e : g = k := e
         subst e
         exact hn hg hk
   · exact h.off k (Or.inr hk)
theorem StIn.pm_lt {w : World} {ps pa pm ph pt : Nat} {v : Value} {S : St} {Y : Nat → Prop} (h : StIn w ps pa pm ph pt v S Y) : pm < w.heap.size := by
 obtain ⟨blk, hb⟩ := h.heap.slab
 exact hb.map.lt
theorem st_put_in {w : World} {ps pa pm ph pt : Nat} {v : Value} {S : St} {Y : Nat → Prop} (h : StIn w ps pa pm ph pt v S Y) (hi : Inv S) (hh k x : Nat) (hl : hh < 18446744073709551616) (hk : k ≤ 4611686018427387904) (hx : x < 18446744073709551616) :
 Calls Tryz.prog 99 #[PV ps, .int .u64 hh, .int .i64 k, .int .u64 x] w fun e w' => e = .returned (.int .i64 ((S.put hh k x).1 : Nat)) ∧ StIn w' ps pa pm ph pt v (S.put hh k x).2 Y ∧ Keep Y w w' := by
 have hpl := st_place ⟨_, _, _, _, _, h⟩ hi hh k hl hk
 have h3 := hi.place_le hh k
 obtain ⟨R, hR⟩ : ∃ R, S.put hh k x = R := ⟨_, rfl⟩
 rw [hR]
 rw [St.put_place] at hR
 rcases S.place_cases hh k with ⟨p, h1⟩ | ⟨er, h1⟩
 · rw [h1] at hpl h3 hR
   simp only at hpl h3 hR
   obtain ⟨_, _, c2, _, _⟩ := h.cells
   have hwr := h.heap.write p x (by omega) hx
   have HG := kq4 hpl hR hwr h
   clear hpl hR h hi h1 hwr
   go_enter Tryz.func99, Tryz.ntmps99
   go_wp2_with fail
   refine HG.out.1.mono ?_
   rintro e w1 ⟨rfl, rfl⟩
   go_wp2_with fail
   refine HG.out.2.2.1.mono ?_
   rintro e w1 ⟨rfl, ha, hkp⟩
   have HA := kq2 (HG.out.2.2.2.arena ha hkp) (hkp.mono fun _ => YS.self)
   clear ha hkp
   go_wp2_with fail
   go_ret
   obtain rfl := HG.out.2.1
   exact ⟨rfl, HA.out.1, HA.out.2⟩
 · rw [h1] at hpl hR
   simp only at hpl hR
   have hq1 : (((er + 1 : Nat) : Int) != 0) = true := by simp; omega
   obtain ⟨g1, hg1⟩ : ∃ g1, er + 1 = g1 := ⟨_, rfl⟩
   rw [hg1] at hpl hR hq1
   have HG := kq3 hpl hR h
   clear hpl hR h hi h1 hg1
   go_enter Tryz.func99, Tryz.ntmps99
   go_wp2_with fail
   refine HG.out.1.mono ?_
   rintro e w1 ⟨rfl, rfl⟩
   go_wp2_with fail
   go_ret
   obtain rfl := HG.out.2.1
   exact ⟨rfl, HG.out.2.2, Keep.refl _ _⟩
theorem putWords_snoc (h : Nat) (x : Nat) : ∀ (l : List Nat) (S : St) (k : Nat), putWords S h k (l ++ [x]) = ((putWords S h k l).put h (k + l.length) x).2
 | [], S, k => rfl
 | y :: l, S, k => by
  show putWords (S.put h k y).2 h (k + 1) (l ++ [x]) = _
  rw [putWords_snoc h x l]
  show ((putWords (S.put h k y).2 h (k + 1) l).put h (k + 1 + l.length) x).2 = ((putWords (S.put h k y).2 h (k + 1) l).put h (k + (l.length + 1)) x).2
  rw [show k + 1 + l.length = k + (l.length + 1) by omega]
def putP (S : St) (h : Nat) (l : List (Nat × Nat)) : St := l.foldl (fun S x => (S.put h x.1 x.2).2) S
theorem putP_snoc (S : St) (h : Nat) (l : List (Nat × Nat)) (x : Nat × Nat) : putP S h (l ++ [x]) = ((putP S h l).put h x.1 x.2).2 := by unfold putP; rw [List.foldl_append]; rfl
theorem putP_row (S : St) (h : Nat) (f : Nat → Nat) : ∀ N, putP S h (rowP f N) = putWords S h 0 ((List.range N).map f)
 | 0 => rfl
 | N + 1 => by
  rw [rowP_succ, putP_snoc, putP_row S h f N, List.range_succ, List.map_append]
  show _ = putWords S h 0 ((List.range N).map f ++ [f N])
  rw [putWords_snoc]
  simp
structure PutAt (w1 W : World) (ps pa pm ph pt : Nat) (v : Value) (S : St) (Y : Nat → Prop) (hh : Nat) (pre : List WordX) : Prop where
 st : StIn W ps pa pm ph pt v (putP S hh (valsW pre)) Y
 inv : Inv (putP S hh (valsW pre))
 keep : Keep Y w1 W
theorem bnode_put {w : World} {ps : Nat} {S : St} {Y : Nat → Prop} (h : StOn w ps S Y) (hi : Inv S) {t : Nat} {n : BN} {vk vv vc : Value} (hn : BnOk t n) (hk : HRow w vk n.keys) (hv : HRow w vv n.vals) (hc : HRow w vc n.kids) (hh : Nat) (hl : hh < 18446744073709551616) (hlen : S.len hh = (6 * t, 0)) (hlt : ∀ x ∈ bnWords t n, x < 18446744073709551616) :
 Calls Tryz.prog 329 #[PV ps, .int .i64 t, .int .u64 hh, bnV vk vv vc n.size] w fun e w' => e = .returned (.int .i64 0) ∧ StOn w' ps (putWords S hh 0 (bnWords t n)) Y ∧ Keep Y w w' := by
 refine (callsIn_wide (n := 7)).1 ?_
 have h1 : 1 ≤ 7 := by omega
 have hfL : Fence.wide.fn 85 := trivial
 have hfF : Fence.wide.fn 215 := trivial
 have hfW : Fence.wide.fn 216 := trivial
 have hfP : Fence.wide.fn 99 := trivial
 have hle0 : ∀ W, Below w.heap.size w W → CallsIn Fence.wide 6 Tryz.prog 85 #[PV ps, .int .u64 0] W _ := fun W hW => callsIn_wide.2 (st_len (h.below hW) hi 0 (by omega))
 have hle1 : ∀ W, Below w.heap.size w W → CallsIn Fence.wide 6 Tryz.prog 85 #[PV ps, .int .u64 hh] W _ := fun W hW => callsIn_wide.2 (st_len (h.below hW) hi hh hl)
 rw [len_zero] at hle0
 rw [hlen] at hle1
 have hfi : ∀ W, Below w.heap.size w W → CallsIn Fence.wide 6 Tryz.prog 215 #[.int .i64 t, bnV vk vv vc n.size] W _ := fun W hW => callsIn_wide.2 (bnode_fits hn (hk.below hW) (hv.below hW) (hc.below hW))
 have hwo : ∀ W, Below w.heap.size w W → CallsIn Fence.wide 6 Tryz.prog 216 #[.int .i64 t, bnV vk vv vc n.size] W _ := fun W hW => callsIn_wide.2 (bnode_row hn (hk.below hW) (hv.below hW) (hc.below hW))
 unfold bnV at hfi hwo ⊢
 have ht := And.intro hn.lo hn.hi
 have hm6 : IntKind.i64.wrap (6 * (t : Int)) = 6 * (t : Int) := IntWalk.i64_in _ (by omega)
 have hcast : ((6 * t : Nat) : Int) = 6 * (t : Int) := by omega
 simp only at hle0 hle1
 rw [hcast] at hle1
 have hbw : bnWords t n = (List.range (6 * t)).map (wAt t n n.keys.length n.kids.length) := rfl
 have HG := kq8 hle0 hle1 hfi hwo h hi hlt hbw
 obtain ⟨Ak, ck, rfl, -⟩ := hk
 obtain ⟨Av, cv, rfl, -⟩ := hv
 obtain ⟨Ac, cc, rfl, -⟩ := hc
 generalize n.keys.length = lk at *
 generalize n.vals.length = lv at *
 generalize n.kids.length = lc at *
 generalize n.size = sz at *
 clear hle0 hle1 hfi hwo h hi hlt hn hlen hbw
 have B0 := (((Below.refl w.heap.size w).alloc (Nat.le_refl _) (.cells #[PV ps] 25)).alloc (by simp) (.cells #[.int .u64 hh] 83)).alloc (by simp; omega) (.cells #[.slice Ak lk ck, .slice Av lv cv, .slice Ac lc cc, .int .u64 sz] 286)
 have q7 := heap_alloc_new ((w.alloc (.cells #[PV ps] 25)).alloc (.cells #[.int .u64 hh] 83)) (.cells #[.slice Ak lk ck, .slice Av lv cv, .slice Ac lc cc, .int .u64 sz] 286)
 have q6 := (((Below.refl ((w.alloc (.cells #[PV ps] 25)).alloc (.cells #[.int .u64 hh] 83)).heap.size ((w.alloc (.cells #[PV ps] 25)).alloc (.cells #[.int .u64 hh] 83))).alloc (Nat.le_refl _) (.cells #[.slice Ak lk ck, .slice Av lv cv, .slice Ac lc cc, .int .u64 sz] 286)).block (w.alloc (.cells #[PV ps] 25)).heap.size (by simp)).trans (heap_alloc_new (w.alloc (.cells #[PV ps] 25)) (.cells #[.int .u64 hh] 83))
 have q4 := (((Below.refl ((w.alloc (.cells #[PV ps] 25)).alloc (.cells #[.int .u64 hh] 83)).heap.size ((w.alloc (.cells #[PV ps] 25)).alloc (.cells #[.int .u64 hh] 83))).alloc (Nat.le_refl _) (.cells #[.slice Ak lk ck, .slice Av lv cv, .slice Ac lc cc, .int .u64 sz] 286)).block w.heap.size (by simp; omega)).trans ((((Below.refl (w.alloc (.cells #[PV ps] 25)).heap.size (w.alloc (.cells #[PV ps] 25))).alloc (Nat.le_refl _) (.cells #[.int .u64 hh] 83)).block w.heap.size (by simp)).trans (heap_alloc_new w (.cells #[PV ps] 25)))
 have z1 : (w.alloc (.cells #[PV ps] 25)).heap.size = w.heap.size + 1 := by simp
 have z2 : ((w.alloc (.cells #[PV ps] 25)).alloc (.cells #[.int .u64 hh] 83)).heap.size = w.heap.size + 1 + 1 := by simp
 have z3 : (((w.alloc (.cells #[PV ps] 25)).alloc (.cells #[.int .u64 hh] 83)).alloc (.cells #[.slice Ak lk ck, .slice Av lv cv, .slice Ac lc cc, .int .u64 sz] 286)).heap.size = w.heap.size + 1 + 1 + 1 := by simp
 rw [z1] at q6
 rw [z2] at q7
 refine callsIn_of_wp_marks Tryz.func329 rfl trivial ?_ rfl
 simp only [Tryz.ntmps329, List.size_toArray, List.length_cons, List.length_nil, Nat.reduceAdd, Nat.reduceSub, Array.replicate_succ, Array.replicate_zero, List.push_toArray, List.append_toArray, List.nil_append, List.cons_append]
 gi_wp2_with fail
 generalize (((w.alloc (.cells #[PV ps] 25)).alloc (.cells #[.int .u64 hh] 83)).alloc (.cells #[.slice Ak lk ck, .slice Av lv cv, .slice Ac lc cc, .int .u64 sz] 286)) = w0 at *
 clear z1 z2
 refine (HG.out.1 _ B0).mono ?_
 rintro e w1 ⟨rfl, rfl⟩
 have x0 : (w0).cell? ⟨w.heap.size, 0, none⟩ = some (PV ps) := by rw [cell_of_block q4]; rfl
 have y0 : (w0).cell? ⟨w.heap.size + 1, 0, none⟩ = some (.int .u64 hh) := by rw [cell_of_block q6]; rfl
 obtain ⟨c0, c1, c2, c3⟩ := cells4 q7
 have H0 := kq4 B0 q4 q6 q7
 clear B0 q4 q6 q7
 gi_wp2_with fail
 clear x0 y0 c0 c1 c2 c3
 refine (HG.out.2.2.1 _ H0.out.1).mono ?_
 rintro e w1 ⟨rfl, hb1⟩
 have r4 := (hb1.block w.heap.size (by omega)).trans H0.out.2.1
 have r6 := (hb1.block (w.heap.size + 1) (by omega)).trans H0.out.2.2.1
 have r7 := (hb1.block (w.heap.size + 1 + 1) (by omega)).trans H0.out.2.2.2
 have s1 := hb1.size
 have x0 : (w1).cell? ⟨w.heap.size, 0, none⟩ = some (PV ps) := by rw [cell_of_block r4]; rfl
 have y0 : (w1).cell? ⟨w.heap.size + 1, 0, none⟩ = some (.int .u64 hh) := by rw [cell_of_block r6]; rfl
 obtain ⟨c0, c1, c2, c3⟩ := cells4 r7
 have H1 := kq4 (H0.out.1.trans (hb1.mono (by omega))) r4 r6 r7
 clear hb1 r4 r6 r7
 gi_wp2_with fail
 refine (HG.out.2.1 _ H1.out.1).mono ?_
 rintro e w2 ⟨rfl, rfl⟩
 gi_wp2_with fail
 clear x0 y0 c0 c1 c2 c3
 refine (HG.out.2.2.2.1 _ H1.out.1).mono ?_
 rintro e w3 ⟨Bx, rfl, hBx, rB, rG, hb3⟩
 have t4 := (hb3.block w.heap.size (by omega)).trans H1.out.2.1
 have t6 := (hb3.block (w.heap.size + 1) (by omega)).trans H1.out.2.2.1
 have B3 := H1.out.1.trans (hb3.mono (by omega))
 have s3 := hb3.size
 have hGl := (gl rG)
 obtain ⟨f, hf⟩ : ∃ f, wAt t n lk lc = f := ⟨_, rfl⟩
 rw [hf] at rG HG
 obtain ⟨pa, pm, ph, pt, v, hIn⟩ := HG.out.2.2.2.2.1
 have hIn3 := hIn.wide B3
 have hfl : ∀ j, j < 6 * t → f j < 18446744073709551616 := fun j hj => HG.out.2.2.2.2.2.2.1 _ (by rw [HG.out.2.2.2.2.2.2.2]; exact List.mem_map.2 ⟨j, List.mem_range.2 hj, rfl⟩)
 have hyl := hIn3.yl
 have hpm : pm < w3.heap.size := hIn3.pm_lt
 have H3 := kq5 hIn3 t4 t6 B3 hIn
 have hall := all_stops (by omega) hfl rB rG (fun k => Y k ∨ (w.heap.size ≤ k ∧ k < w3.heap.size)) (Or.inr ⟨by omega, hGl⟩)
 clear hIn3 t4 t6 B3 rB rG hb3 hIn hf hBx
 gi_wp2_with fail
 refine wpIn_rangeFunc_ownH rfl h1 (gf := 261) (lb := #[PV Bx]) rfl trivial (enters_of Tryz.func261 (by kernel_rfl) rfl)
  hall KpR.trans (fun W l o o' h1 h2 h3 h4 => ⟨by simp, fun k hk => World.putObj_heap_other (by have := hyl k hk; omega)⟩) (Below.refl _ _) (fun _ => rfl)
  (fun pre W => PutAt w3 W ps pa pm ph pt v S (fun k => Y k ∨ (w.heap.size ≤ k ∧ k < w3.heap.size)) hh pre)
  (fun _ _ _ => False)
  (fun pre W W' row hs hg hr => ⟨hs.st.own hg.size (fun k o hk hc => (hg.block k (gl hk) (fun e => by
   obtain ⟨r1, o', r2, r3⟩ := hr k e.symm
   rcases hc with hc | hc
   · rw [hk] at r2; injection r2 with r2; rw [r2, r3] at hc; cases hc
   · omega)).trans hk), hs.inv, ⟨hg.os.trans hs.keep.os, hg.tape.trans hs.keep.tape, hg.output.trans hs.keep.output, Nat.le_trans hs.keep.size hg.size, fun k hk => (hg.block k (Nat.lt_of_lt_of_le (hyl k hk) hs.keep.size) (fun e => by
   have := (hr k e.symm).1
   have := hyl k hk
   omega)).trans (hs.keep.block k hk)⟩⟩)
  (fun _ _ _ _ _ hs _ _ => hs.elim)
  ⟨H3.out.1, HG.out.2.2.2.2.2.1, Keep.refl _ _⟩
  (fun x a' _ => a' = { tmps := #[PV ps, .int .i64 t, .int .u64 hh, .agg #[.slice Ak lk ck, .slice Av lv cv, .slice Ac lc cc, .int .u64 sz], PV w.heap.size, undef, PV (w.heap.size + 1), PV (w.heap.size + 1 + 1), .int .i64 0, .int .i64 0, .int .i64 7, .int .i64 (6 * (t : Int)), .int .i64 0, .int .i64 x.1.1, .int .u64 x.1.2, .tuple #[.int .i64 0, .int .i64 7], PV ps, .tuple #[.int .i64 0, .int .i64 7], .int .i64 0, .int .i64 7, .int .i64 7, .bool false, undef, .int .i64 t, .agg #[.slice Ak lk ck, .slice Av lv cv, .slice Ac lc cc, .int .u64 sz], .bool true, .bool false, .tuple #[.int .i64 (6 * (t : Int)), .int .i64 0], PV ps, .int .u64 hh, .tuple #[.int .i64 (6 * (t : Int)), .int .i64 0], .int .i64 (6 * (t : Int)), .int .i64 0, .bool false, .int .i64 0, .bool false, undef, .bool false, .int .i64 (6 * (t : Int)), .int .i64 t, .int .i64 (6 * (t : Int)), .bool false, .int .i64 t, .agg #[.slice Ak lk ck, .slice Av lv cv, .slice Ac lc cc, .int .u64 sz], .func (.func 261) #[] #[PV Bx], .int .i64 x.1.1, .int .u64 x.1.2, undef, undef, undef, undef, undef], defers := [] })
  (fun x a' _ X W' row hs hg hr => hs)
  ?assign ?body ?done ?stop
 case assign =>
  rintro l pre ⟨⟨i, x⟩, hx⟩ W K hI hK
  have HK := Lib.hid hK
  clear hK
  simp only [encW]
  gi_wp2
  exact HK.out _ _ (KeepsFrom.refl _ _) (KpR.refl _ _) hI rfl
 case body =>
  rintro l pre ⟨⟨i, x⟩, hx⟩ a' W hl' _ hI rfl hlt
  simp only at hx ⊢
  have c4 := cell_of_block (o := 0) ((hI.keep.block w.heap.size (Or.inr ⟨Nat.le_refl _, by omega⟩)).trans H3.out.2.1)
  have c6 := cell_of_block (o := 0) ((hI.keep.block (w.heap.size + 1) (Or.inr ⟨by omega, by omega⟩)).trans H3.out.2.2.1)
  have c4 : W.cell? ⟨w.heap.size, 0, none⟩ = some (PV ps) := c4
  have c6 : W.cell? ⟨w.heap.size + 1, 0, none⟩ = some (.int .u64 hh) := c6
  have hput : CallsIn Fence.wide 4 Tryz.prog 99 #[PV ps, .int .u64 hh, .int .i64 i, .int .u64 x] W _ := callsIn_wide.2 (st_put_in hI.st.full hI.inv hh i x hl (by omega) hx.2)
  have hv : ∀ (hx : _), valsW (pre ++ [(⟨(i, x), hx⟩ : WordX)]) = valsW pre ++ [(i, x)] := fun hx => by
   show (pre ++ [(⟨(i, x), hx⟩ : WordX)]).map (·.1) = _
   rw [List.map_append]
   rfl
  have hinv := hI.inv.put hh i x
  have HH := kq4 hI @hv hinv hput
  clear hI hv hinv hput hall
  gi_wp2_with fail
  refine (CallsIn.inRound l HH.out.2.2.2).mono ?_
  rintro e w5 ⟨rfl, h5, k5⟩
  have H5 := kq2 h5 k5
  clear h5 k5 c4 c6
  gi_wp2_with fail
  have hk := H5.out.2
  have hI := HH.out.1
  refine ⟨⟨hk.size, fun k o hk1 hk2 hk3 => (hk.block k (Or.inr ⟨by omega, o, hk2, hk3⟩)).trans hk2⟩, ⟨hk.size, fun k hk1 => hk.block k (Or.inl hk1)⟩, ?_, ?_, hI.keep.trans (hk.mono fun k hk => Or.inl hk)⟩
  · rw [HH.out.2.1, putP_snoc]; exact H5.out.1.mono fun k hk => Or.inl hk
  · rw [HH.out.2.1, putP_snoc]; exact HH.out.2.2.1
 case done =>
  rintro D ys W hD hS hI hK
  have hst := hI.st
  have hkp := hI.keep
  rw [hS, putP_row, ← HG.out.2.2.2.2.2.2.2] at hst
  have HH := kq3 hst hkp hK
  clear hI hst hkp hK hS hall
  gi_wp2_with fail
  refine ⟨by simp, .inl ⟨_, _, rfl, run_takeDeferred HH.out.2.2, ?_⟩⟩
  obtain ⟨hst, hkp, hK⟩ := HH.out
  have hpt : ∀ (k : Nat), k ≠ D → (W.putObj D (.deferred none)).heap[k]? = W.heap[k]? := fun k hk => World.putObj_heap_other hk
  have hst' : StIn (W.putObj D (.deferred none)) ps pa pm ph pt v (putWords S hh 0 (bnWords t n)) _ := hst.own (by simp) fun k o hk hc => (hpt k (by
   rintro rfl
   rcases hc with hc | hc
   · rw [hK] at hk; injection hk with hk; rw [← hk] at hc; cases hc
   · omega)).trans hk
  have hkD : Keep Y W (W.putObj D (.deferred none)) := ⟨rfl, rfl, rfl, by simp, fun k hk => hpt k (by have := hyl k (Or.inl hk); omega)⟩
  refine ⟨.int .i64 0, ?_, rfl, ⟨pa, pm, ph, pt, v, hst'.mono fun k hk => Or.inl hk⟩, (Keep.of_below H3.out.2.2.2.1 (StOn.yl ⟨_, _, _, _, _, H3.out.2.2.2.2⟩)).trans ((hkp.mono fun k hk => Or.inl hk).trans hkD)⟩
  simp [results, Tryz.f329, go_sem]
 case stop =>
  intro D c pre W _ _ hI
  exact hI.elim
end Go.Proofs.YtcibkdbpicledaaGreatDoor
namespace Go.Proofs.YtcibkdbpicledaaGreatDoor
open Go.RowKit Go.BigFrame Go.Maps Go.WideMaps Lf
def Lf.bn0 : BN := ⟨[], [], [], 0⟩
theorem bn0_ok {t : Nat} (h1 : 2 ≤ t) (h2 : t ≤ 16) : BnOk t bn0 := ⟨h1, h2, Nat.zero_le _, rfl, Or.inl rfl⟩
theorem bn0_lt (t : Nat) : ∀ x ∈ bnWords t bn0, x < 18446744073709551616 := by
 intro x hx
 unfold bnWords at hx
 obtain ⟨j, _, rfl⟩ := List.mem_map.1 hx
 unfold wAt bn0
 simp only [List.length_nil, List.getD_nil]
 repeat (first | split | omega)
theorem bnode_make0 {w : World} {ps : Nat} {S S1 : St} {Y : Nat → Prop} (h : StOn w ps S Y) (hi : Inv S) {t : Nat} (t1 : 2 ≤ t) (t2 : t ≤ 16) (hm : MkOk S (6 * t)) {hh : Nat} (he : S.make (6 * t) = ((hh, 0), S1)) (hl : hh < 18446744073709551616) (hlen : S1.len hh = (6 * t, 0)) :
 Calls Tryz.prog 330 #[PV ps, .int .i64 t, bnV (.slice none 0 0) (.slice none 0 0) (.slice none 0 0) 0] w fun e w' => e = .returned (.tuple #[.int .u64 hh, .int .i64 0]) ∧ StOn w' ps (putWords S1 hh 0 (bnWords t bn0)) Y ∧ Keep Y w w' := by
 have B0 := (Below.refl w.heap.size w).alloc (Nat.le_refl _) (.cells #[.slice none 0 0, .slice none 0 0, .slice none 0 0, .int .u64 0] 286)
 have q0 := heap_alloc_new w (.cells #[.slice none 0 0, .slice none 0 0, .slice none 0 0, .int .u64 0] 286)
 have hi1 : Inv S1 := by have := hm.2; rw [he] at this; exact this
 have hle := st_len (h.below B0) hi 0 (by omega)
 rw [len_zero] at hle
 have hfi := fun W => bnode_fits (w := W) (bn0_ok t1 t2) (HRow.nil W) (HRow.nil W) (HRow.nil W)
 have hmk := fun W Z (hW : StOn W ps S Z) => st_make hW (6 * t) (by omega) hm.1
 rw [he] at hmk
 have hpu := fun W Z (hW : StOn W ps S1 Z) => bnode_put hW hi1 (bn0_ok t1 t2) (HRow.nil W) (HRow.nil W) (HRow.nil W) hh hl hlen (bn0_lt t)
 unfold bnV at hfi hpu ⊢
 simp only [bn0] at hfi hpu
 have hz := h.wide B0
 have hm6 : IntKind.i64.wrap (6 * (t : Int)) = 6 * (t : Int) := IntWalk.i64_in _ (by omega)
 have hcast : ((6 * t : Nat) : Int) = 6 * (t : Int) := by omega
 simp only [hcast] at hmk
 have HG := kq7 hle hfi hmk hpu h B0 hz
 obtain ⟨c0, c1, c2, c3⟩ := cells4 q0
 clear hle hfi hmk hpu h hi hi1 B0 hz hm he hlen
 go_enter Tryz.func330, Tryz.ntmps330
 go_wp2_with fail
 refine HG.out.1.mono ?_
 rintro e w1 ⟨rfl, rfl⟩
 go_wp2_with fail
 refine (HG.out.2.1 _).mono ?_
 rintro e w1 ⟨rfl, hb1⟩
 have r1 := (hb1.block w.heap.size (by simp)).trans q0
 have H1 := kq3 (HG.out.2.2.2.2.2.2.below hb1) r1 (HG.out.2.2.2.2.2.1.trans (hb1.mono (by simp)))
 clear hb1 r1 c0 c1 c2 c3
 go_wp2_with fail
 refine (HG.out.2.2.1 _ _ H1.out.1).mono ?_
 rintro e w2 ⟨rfl, h2, k2⟩
 have r2 := (k2.block w.heap.size (Or.inr ⟨Nat.le_refl _, by simp⟩)).trans H1.out.2.1
 obtain ⟨c0, c1, c2, c3⟩ := cells4 r2
 have H2 := kq2 h2 k2
 clear h2 k2 r2
 go_wp2_with fail
 refine (HG.out.2.2.2.1 _ _ H2.out.1).mono ?_
 rintro e w3 ⟨rfl, h3, k3⟩
 have H3 := kq2 (h3.mono (Z := Y) fun k hk => Or.inl hk) ((Keep.of_below H1.out.2.2 HG.out.2.2.2.2.1.yl).trans ((H2.out.2.trans k3).mono fun k hk => Or.inl hk))
 clear h3 k3
 go_wp2_with fail
 go_ret2
 exact ⟨rfl, H3.out⟩
end Go.Proofs.YtcibkdbpicledaaGreatDoor
namespace Go.Proofs.YtcibkdbpicledaaGreatDoor.Qy
open Go Go.RowKit Qw Qu Qx
section
variable {P : Program} {ops : Array Oper} {md : Region.Mode} {S : World → Prop} {Q : Exit → Act → World → Prop} {n : Nat}
theorem wpInW_of_wp {o : Oper} {a : Act} {w : World} {K : Act → World → Prop} (hnd : ∀ c, o.op ≠ .defer c) (h : o.wp P a w K Q) : o.wpIn Fence.wide n P a w K Q := by
 refine ⟨fun _ _ => trivial, ?_⟩
 rw [Oper.semAt_eq _ _ _ hnd]
 unfold Oper.wp at h
 generalize (execOp a.eval o).run P w = r at h ⊢
 cases r with
 | ok x w' =>
  cases x with
  | value v => exact h
  | skip => exact h
  | defer d => exact h
  | enter f args => exact ⟨fun hd => (by cases hd), (callsIn_wide.2 h : CallsIn Fence.wide (n - 1) P f args w' _)⟩
  | row row args => exact ⟨fun hd => (by cases hd), rowsIn_wide h⟩
  | _ => exact (h : False).elim
 | halt x w' =>
  cases x <;> first | exact h | exact (h : False).elim
theorem wpAnyInW_of_held (hnd : noDefer ops = true) (hl : ¬ LetsOut Q) : ∀ (fuel : Nat) (listed : Array Bool) (a : Act) (w : World), wpAnyH P md ops Q S fuel listed a w → wpAnyIn Fence.wide n P md ops Q fuel listed a w
 | 0, _, _, _, h => h
 | fuel + 1, listed, a, w, h => by
  refine ⟨h.1, fun i hi => ?_⟩
  have h2 := h.2 i hi
  unfold wpOp at h2
  unfold wpOpIn
  split
  · rename_i ho
    simp only [ho] at h2
    exact wpAnyInW_of_held hnd hl fuel _ _ _ h2.2
  · rename_i o ho
    simp only [ho] at h2
    split
    · rename_i hw
      simp only [hw, if_true] at h2
      rcases h2 with h2 | h2
      · exact wpInW_of_wp (noDefer_at hnd ho) (Oper.wp_mono (fun a' w' h' => wpAnyInW_of_held hnd hl fuel _ _ _ h'.2) h2)
      · exact absurd h2.2 hl
    · rename_i hw
      simp only [hw] at h2
      exact ⟨fun _ _ => trivial, wpAnyInW_of_held hnd hl fuel _ _ _ h2.2⟩
end
end Qy
open Qw Qu Qx Qy
theorem wpInW_region_plan {P : Program} {id n : Nat} {Q : Exit → Act → World → Prop} {a : Act} {w : World} {l : List Oper} (I : World → Prop) (p : Plan) (hnd : noDefer l.toArray = true) (hm : P.follows .mixedOrders = true) (hB : lexPlanB .any l.toArray p = true)
 (hI : I w.drew) (h : wpPlan P l (Only Q) (InK I) p a w.drew) : (Code.region id l.toArray true).wpIn Fence.wide n P Q a w := by
 simp only [lexPlanB, Bool.and_eq_true, decide_eq_true_eq] at hB
 obtain ⟨⟨hsel, hn⟩, hlex⟩ := hB
 have hS : InK I w.drew := ⟨⟨_, hI⟩, rfl⟩
 have := wpAnyH_plan (md := .any) (Q := Only Q) hsel (fun _ _ _ _ _ h => (h : False).elim) p _ a w.drew hlex hS h
 rw [hn] at this
 exact Code.wpIn_mono Only.imp (wpIn_region_any hm (wpAnyInW_of_held hnd Only.shut _ _ _ _ this))
end Go.Proofs.YtcibkdbpicledaaGreatDoor
namespace Go.Proofs.YtcibkdbpicledaaGreatDoor
open Go.RowKit Go.BigFrame Go.Maps Go.WideMaps Lf
open Go.Shelf
attribute [local go_sem] Oper.semAt_some
theorem bn_get1 {w : World} {ps : Nat} {S : St} {Y : Nat → Prop} (h : StOn w ps S Y) (hi : Inv S) (hh : Nat) (hl : hh < 18446744073709551616) {b3 b5 : Nat} (c3 : w.cell? ⟨b3, 0, none⟩ = some (PV ps)) (c5 : w.cell? ⟨b5, 0, none⟩ = some (.int .u64 hh)) (k : Nat) (hk : k ≤ 4611686018427387904) {x : Nat} (hx : (S.get hh k).1 = x) :
 Calls Tryz.prog 214 #[.int .i64 k, PV b3, PV b5] w fun e w' => e = .returned (.int .u64 x) ∧ w = w' := by
 have hg := st_get h hi hh k hl hk
 rw [hx] at hg
 generalize (S.get hh k).2 = er at hg
 have HG := Lib.hid hg
 clear hg h hi hx
 go_enter Tryz.func214, Tryz.ntmps214
 go_wp2_with fail
 refine HG.out.mono ?_
 rintro e w1 ⟨rfl, rfl⟩
 go_wp2_with fail
 go_ret
 exact ⟨rfl, rfl⟩
def hV (l : List Nat) : List Value := l.map fun x : Nat => Value.int .u64 x
theorem infoH : (Tryz.prog.info? 83).map (fun i => (i.zero, i.size, i.bytes)) = some (some (.int .u64 0), 1, 8) := by kernel_rfl
abbrev OwnH (w : World) (B : Nat) (v : Value) (l : List Nat) : Prop := w.ownsRow B 83 1 v l.length (hV l)
theorem append_handle {w : World} {B : Nat} {v : Value} {l : List Nat} (h : OwnH w B v l) (hl : l.length ≤ 100000) (x : Nat) (hB : B ≤ w.heap.size) (ty : TypeId) :
 ∃ v' w', (Builtin.append_ #[229, 229] ty #[v, .slice (some ⟨w.heap.size, 0, none⟩) 1 1]).run Tryz.prog (w.alloc (.cells #[.int .u64 x] 83)) = .ok v' w' ∧ OwnH w' B v' (l ++ [x]) ∧ w.grownBy w' v.ownBlock ∧ (v'.ownBlock = v.ownBlock ∨ ∃ g, v'.ownBlock = some g ∧ w.heap.size ≤ g) := by
 obtain ⟨i, hi, hz0, hz1, hz2⟩ := info_parts infoH
 obtain ⟨v', w', h1, h2, h3, _, h4⟩ := run_append_own_at (P := Tryz.prog) (w := w.alloc (.cells #[.int .u64 x] 83)) B 229 ty 83 i (.int .u64 0) 1 8 Tryz.underlying229 hi hz0 hz1 hz2 rfl (by decide) v l.length (hV l) (h.alloc _) ⟨w.heap.size, 0, none⟩ 1 1 [.int .u64 x] rfl (cell_one_new _ _ _) (by simp [Value.oneCell']) (by unfold maxLen; omega) (by omega) (by simp; omega)
 refine ⟨v', w', h1, ?_, (World.grownBy_alloc w _ _).trans h3, ?_⟩
 · have e : hV (l ++ [x]) = hV l ++ [.int .u64 x] := by simp [hV]
   unfold OwnH
   rw [e, List.length_append]
   exact h2
 · rcases h4 with h4 | h4
   · exact Or.inl h4
   · exact Or.inr ⟨_, h4, by simp⟩
