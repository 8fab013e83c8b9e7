/- B-trees in a store: an item more, by nodes: plain. B-trees: nodes made ahead: the walks of maker and of what it hands back. B-trees: a spare node taken: the walk. B-trees: need, down of what is no node: the walks. A region that draws its order, walked by a plan whose last operations (each waits for all the others) need not keep the class. B-trees: a handle more in a row beside a store: one step. -/
import Derived.Test.YtepdkbmnkjfcpaaGreatDoorVaw
import Derived.Test.YtepdkbmnkjfcpaaGreatDoorVbc
import Derived.Test.YtepdkbmnkjfcpaaGreatDoorVay
import Derived.Test.YtepdkbmnkjfcpaaGreatDoorVal
set_option maxRecDepth 100000
set_option maxHeartbeats 6400000
namespace Go.Proofs.YtepdkbmnkjfcpaaGreatDoor
open Lf Tr
namespace Bt
theorem put_node {S : St} {o : Nat → Nat} (hf : Fit S o) {t d : Nat} {x : Bt (d + 1)} (hk : ∀ k ∈ Bn.ks x, At S t k) (hn : ∀ k ∈ Bn.ks x, hd x ∉ nodes k) {ws : List Nat} (hr : reco S (hd x) = some ws) (hw : ws.length = 6 * t) (hl : BnLt (bn x)) (he : (Bn.es x).length < 1000) :
    Fit (putWords S (hd x) 0 (bnWords t (bn x))) o ∧ At (putWords S (hd x) 0 (bnWords t (bn x))) t x ∧ (∀ h, h ≠ hd x → reco (putWords S (hd x) 0 (bnWords t (bn x))) h = reco S h) ∧ Grew S (putWords S (hd x) 0 (bnWords t (bn x))) 0 0 := by
  obtain ⟨q1, q2, q3, q4⟩ := look_putAll hf hr (l := bnWords t (bn x)) (by rw [bnWords_length, hw]) (bnWords_lt hl (by unfold bn; rw [List.length_map]; omega))
  refine ⟨q1, ⟨q2, fun k hkm => (hk k hkm).frame fun h hm => q3 h fun e => hn k hkm (e ▸ hm)⟩, q3, q4⟩
theorem hd_kids {d : Nat} {x : Bt (d + 1)} (h : (nodes x).Nodup) : ∀ k ∈ Bn.ks x, hd x ∉ nodes k := fun k hk hm => by
  rw [nodes_mk] at h
  exact (List.nodup_cons.1 h).1 (List.mem_flatten.2 ⟨_, List.mem_map.2 ⟨k, hk, rfl⟩, hm⟩)
structure Mid (S S' : St) (o : Nat → Nat) (t : Nat) {d : Nat} (x : Bt (d + 1)) (e : It) (U : List Nat) (x' : Bt (d + 1)) : Prop where
  fit : Fit S' o
  grew : Grew S S' 0 0
  fr : ∀ h, h ∉ nodes x → h ∉ U → reco S' h = reco S h
  hd : Bn.h x' = Bn.h x
  okN : OkN t x'
  its : Bt.its x' = insB e (Bt.its x)
  kids : ∀ k ∈ Bn.ks x', At S' t k
  nd : (nodes x').Nodup
  sub : ∀ h ∈ nodes x', h ∈ nodes x ∨ h ∈ U
  own : ∃ ws, reco S' (Bn.h x) = some ws ∧ ws.length = 6 * t
  grow : (Bn.es x).length ≤ (Bn.es x').length
  lt : BnLt (bn x')
structure Put (S S' : St) (o : Nat → Nat) (t : Nat) {d : Nat} (x : Bt (d + 1)) (e : It) (U : List Nat) (r : Option (It × Nat)) : Prop where
  fit : Fit S' o
  grew : Grew S S' 0 0
  fr : ∀ h, h ∉ nodes x → h ∉ U → reco S' h = reco S h
  res : match r with
    | none => ∃ y : Bt (d + 1), Bn.h y = Bn.h x ∧ At S' t y ∧ Ok t y ∧ nk x ≤ nk y ∧ Bt.its y = insB e (Bt.its x) ∧ (nodes y).Nodup ∧ (∀ h ∈ nodes y, h ∈ nodes x ∨ h ∈ U)
    | some (m, g) => ∃ y1 y2 : Bt (d + 1), Bn.h y1 = Bn.h x ∧ Bn.h y2 = g ∧ At S' t y1 ∧ At S' t y2 ∧ Ok t y1 ∧ Ok t y2 ∧ nk y1 = t ∧ nk y2 + 1 = t ∧ Bt.its y1 ++ m :: Bt.its y2 = insB e (Bt.its x) ∧ (nodes y1 ++ nodes y2).Nodup ∧ (∀ h ∈ nodes y1 ++ nodes y2, h ∈ nodes x ∨ h ∈ U)
abbrev ItLt (l : List It) : Prop := ∀ d ∈ l, d.kh < 18446744073709551616 ∧ d.vh < 18446744073709551616
theorem Mid.put {S S' : St} {o : Nat → Nat} {t d : Nat} {x : Bt (d + 1)} {e : It} {U : List Nat} {x' : Bt (d + 1)} (h : Mid S S' o t x e U x') (t2 : t ≤ 16) (hl : (Bn.es x').length < 2 * t) : Put S (putWords S' (Bn.h x) 0 (bnWords t (bn x'))) o t x e U none := by
  obtain ⟨ws, hr, hw⟩ := h.own
  have hh : Bt.hd x' = Bn.h x := h.hd
  have hp := put_node h.fit h.kids (hd_kids h.nd) (by rw [hh]; exact hr) hw h.lt (by omega)
  rw [hh] at hp
  obtain ⟨p1, p2, p3, p4⟩ := hp
  refine ⟨p1, (h.grew.trans p4).mono (by omega) (by omega), fun y h1 h2 => (p3 y fun q => h1 (q ▸ hd_mem x)).trans (h.fr y h1 h2), ⟨x', h.hd, p2, h.okN.ok hl, h.grow, h.its, h.nd, h.sub⟩⟩
theorem Mid.cut {S S' : St} {o : Nat → Nat} {t d : Nat} (t1 : 1 ≤ t) (t2 : t ≤ 16) {x : Bt (d + 1)} {e : It} {U : List Nat} {x' : Bt (d + 1)} (h : Mid S S' o t x e U x') (hl : (Bn.es x').length = 2 * t) {g : Nat} (hg1 : g ∉ U) (hg2 : g ∉ nodes x) {wg : List Nat} (hg3 : reco S g = some wg) (hg4 : wg.length = 6 * t) :
    Put S (putWords (putWords S' (Bn.h x) 0 (bnWords t (bn (leftOf t x')))) g 0 (bnWords t (bn (rightOf t x' g)))) o t x e (U ++ [g]) (some ((Bn.es x')[t]'(by omega), g)) := by
  obtain ⟨ws, hr, hw⟩ := h.own
  obtain ⟨c1, c2, c3, c4, c5⟩ := h.okN.split t1 hl g
  have hnd := h.nd
  rw [nodes_mk] at hnd
  obtain ⟨n1, n2⟩ := List.nodup_cons.1 hnd
  have hgn : g ∉ nodes x' := fun q => (h.sub g q).elim hg2 hg1
  have hlk : ∀ k ∈ Bn.ks (leftOf t x'), k ∈ Bn.ks x' := fun k hk => List.mem_of_mem_take hk
  have hrk : ∀ k ∈ Bn.ks (rightOf t x' g), k ∈ Bn.ks x' := fun k hk => List.mem_of_mem_drop hk
  have hh : Bt.hd (leftOf t x') = Bn.h x := h.hd
  have eN : ((Bn.ks x').map nodes).flatten = (((Bn.ks x').take (t + 1)).map nodes).flatten ++ (((Bn.ks x').drop (t + 1)).map nodes).flatten := by
    conv => lhs; rw [← List.take_append_drop (t + 1) (Bn.ks x'), List.map_append, List.flatten_append]
  have hes : ∀ q ∈ Bn.es x', q.kh < 18446744073709551616 ∧ q.vh < 18446744073709551616 := fun q hq => ⟨h.lt.keys _ (List.mem_map.2 ⟨q, hq, rfl⟩), h.lt.vals _ (List.mem_map.2 ⟨q, hq, rfl⟩)⟩
  have hsz := h.lt.size
  have hsz : (Bt.its x').length < 18446744073709551616 := hsz
  rw [c1, List.length_append, List.length_cons] at hsz
  have hkl := h.kids
  have ltL : BnLt (bn (leftOf t x')) := bnLt_of h.fit (fun q hq => hes q (List.mem_of_mem_take hq)) (fun k hk => hkl k (hlk k hk)) (by omega)
  have ltR : BnLt (bn (rightOf t x' g)) := bnLt_of h.fit (fun q hq => hes q (List.mem_of_mem_drop hq)) (fun k hk => hkl k (hrk k hk)) (by omega)
  have hp := put_node (x := leftOf t x') h.fit (fun k hk => hkl k (hlk k hk)) (fun k hk => by
      show Bn.h x' ∉ _
      exact hd_kids h.nd k (hlk k hk)) (by rw [hh]; exact hr) hw ltL (by show ((Bn.es x').take t).length < 1000; rw [List.length_take]; omega)
  rw [hh] at hp
  obtain ⟨p1, p2, p3, p4⟩ := hp
  have hgx : g ≠ Bn.h x := fun q => hg2 (q ▸ hd_mem x)
  have hrg : reco (putWords S' (Bn.h x) 0 (bnWords t (bn (leftOf t x')))) g = some wg := (p3 g hgx).trans ((h.fr g hg2 hg1).trans hg3)
  have hkR : ∀ k ∈ Bn.ks (rightOf t x' g), At (putWords S' (Bn.h x) 0 (bnWords t (bn (leftOf t x')))) t k := fun k hk => (hkl k (hrk k hk)).frame fun y hy => p3 y fun q => hd_kids h.nd k (hrk k hk) (by
    show Bn.h x' ∈ nodes k
    rw [h.hd, ← q]
    exact hy)
  obtain ⟨r1, r2, r3, r4⟩ := put_node (x := rightOf t x' g) p1 hkR (fun k hk q => hgn (mem_nodes_kid (hrk k hk) q)) (ws := wg) hrg hg4 ltR (by show ((Bn.es x').drop (t + 1)).length < 1000; rw [List.length_drop]; omega)
  have r3 : ∀ y, y ≠ g → _ := r3
  have hL : At (putWords (putWords S' (Bn.h x) 0 (bnWords t (bn (leftOf t x')))) g 0 (bnWords t (bn (rightOf t x' g)))) t (leftOf t x') := p2.frame fun y hy => r3 y fun q => by
    subst q
    refine hgn ?_
    rw [nodes_mk] at hy ⊢
    rcases List.mem_cons.1 hy with hy | hy
    · exact hy ▸ List.mem_cons_self ..
    · refine List.mem_cons_of_mem _ ?_
      rw [eN]
      exact List.mem_append_left _ hy
  have hsubs : ∀ y ∈ nodes (leftOf t x') ++ nodes (rightOf t x' g), y ∈ nodes x' ∨ y = g := fun y hy => by
    rw [nodes_mk x', eN]
    rcases List.mem_append.1 hy with hy | hy
    · rcases List.mem_cons.1 hy with hy | hy
      · exact Or.inl (hy ▸ List.mem_cons_self ..)
      · exact Or.inl (List.mem_cons_of_mem _ (List.mem_append_left _ hy))
    · rcases List.mem_cons.1 hy with hy | hy
      · exact Or.inr hy
      · exact Or.inl (List.mem_cons_of_mem _ (List.mem_append_right _ hy))
  refine ⟨r1, ((h.grew.trans p4).trans r4).mono (by omega) (by omega), fun y h1 h2 => ?_, ⟨leftOf t x', rightOf t x' g, h.hd, rfl, hL, r2, c2, c3, c4, c5, ?_, ?_, fun y hy => ?_⟩⟩
  · have h3 : y ∉ U ∧ y ≠ g := ⟨fun q => h2 (List.mem_append_left _ q), fun q => h2 (List.mem_append_right _ (q ▸ List.mem_cons_self ..))⟩
    exact (r3 y h3.2).trans ((p3 y fun q => h1 (q ▸ hd_mem x)).trans (h.fr y h1 h3.1))
  · rw [← h.its, c1]
  · rw [eN] at n1 n2
    obtain ⟨m1, m2, m3⟩ := List.nodup_append.1 n2
    rw [nodes_mk x', eN] at hgn
    show ((Bn.h x' :: (((Bn.ks x').take (t + 1)).map nodes).flatten) ++ (g :: (((Bn.ks x').drop (t + 1)).map nodes).flatten)).Nodup
    refine List.nodup_append.2 ⟨List.nodup_cons.2 ⟨fun q => n1 (List.mem_append_left _ q), m1⟩, List.nodup_cons.2 ⟨fun q => hgn (List.mem_cons_of_mem _ (List.mem_append_right _ q)), m2⟩, fun a ha b hb q => ?_⟩
    subst q
    rcases List.mem_cons.1 ha with rfl | ha
    · rcases List.mem_cons.1 hb with hb | hb
      · exact hgn (hb ▸ List.mem_cons_self ..)
      · exact n1 (List.mem_append_right _ hb)
    · rcases List.mem_cons.1 hb with rfl | hb
      · exact hgn (List.mem_cons_of_mem _ (List.mem_append_left _ ha))
      · exact m3 a ha a hb rfl
  · rcases hsubs y hy with hy | rfl
    · exact (h.sub y hy).imp id fun q => List.mem_append_left _ q
    · exact Or.inr (List.mem_append_right _ (List.mem_cons_self ..))
end Bt
end Go.Proofs.YtepdkbmnkjfcpaaGreatDoor
namespace Go.Proofs.YtepdkbmnkjfcpaaGreatDoor
open Go.RowKit Go.BigFrame Go.Maps Go.WideMaps Lf Tr
open Go.Shelf
theorem tab_lt {w : World} {ps : Nat} {S : St} {Y : Nat → Prop} (h : StOn w ps S Y) : tabB < w.heap.size := by
  obtain ⟨pa, pm, ph, pt, v, h⟩ := h
  exact h.heap.yl _ (Or.inr (Or.inr (Or.inr (Or.inl rfl))))
theorem StOn.grown {w w' : World} {ps : Nat} {S : St} {Y : Nat → Prop} {row : Option Nat} (h : StOn w ps S Y) (hg : w.grownBy w' row) (hr : ∀ g, row = some g → Y g ∧ g ≠ tabB ∧ ∃ cs fr, w.heap[g]? = some (.cells cs 43 fr)) : StOn w' ps S (fun k => Y k ∨ (w.heap.size ≤ k ∧ k < w'.heap.size)) := by
  cases row with
  | none => exact h.wide ⟨hg.os, hg.tape, hg.output, hg.size, fun k hk => hg.block k hk (by simp)⟩
  | some g =>
    obtain ⟨h1, h2, cs, fr, h3⟩ := hr g rfl
    have hgl := (Array.getElem?_eq_some_iff.1 h3).1
    obtain ⟨w2, hw2⟩ : ∃ w2 : World, w2 = { w' with heap := w'.heap.setIfInBounds g (.cells cs 43 fr) } := ⟨_, rfl⟩
    have hs2 : w2.heap.size = w'.heap.size := by rw [hw2]; simp
    have hb2 : ∀ k, w2.heap[k]? = if g = k then some (.cells cs 43 fr) else w'.heap[k]? := fun k => by
      rw [hw2]
      show (w'.heap.setIfInBounds g _)[k]? = _
      rw [Array.getElem?_setIfInBounds]
      split
      · rename_i e; subst e; rw [if_pos (by have := hg.size; omega)]
      · rfl
    have hbel : Below w.heap.size w w2 := by
      refine ⟨by rw [hw2]; exact hg.os, by rw [hw2]; exact hg.tape, by rw [hw2]; exact hg.output, by rw [hs2]; exact hg.size, fun k hk => ?_⟩
      rw [hb2]
      split
      · rename_i e; subst e; exact h3.symm
      · rename_i e; exact hg.block k hk (fun q => e (Option.some.inj q).symm)
    have hz := h.wide hbel
    rw [hs2] at hz
    obtain ⟨pa, pm, ph, pt, v, hz⟩ := hz
    refine ⟨pa, pm, ph, pt, v, hz.of_keep (by rw [hs2]; exact Nat.le_refl _) fun k hk hc => ?_⟩
    have hne : k ≠ g := by
      rintro rfl
      rcases hc with hc | rfl | rfl | rfl
      · exact hc (Or.inl h1)
      · have := hz.hd
        rw [hb2, if_pos rfl] at this
        injection this with this
        injection this with _ this
        exact absurd this (by decide)
      · have := hz.heap.hp
        rw [hb2, if_pos rfl] at this
        injection this with this
        injection this with _ this
        exact absurd this (by decide)
      · exact h2 rfl
    rw [hb2, if_neg (fun e => hne e.symm)]
structure Spare (S : St) (t : Nat) (L : List Nat) : Prop where
  nd : L.Nodup
  recs : ∀ h ∈ L, ∃ ws, reco S h = some ws ∧ ws.length = 6 * t
theorem spare_make {S : St} {o : Nat → Nat} (hf : Fit S o) {t : Nat} (t1 : 2 ≤ t) (t2 : t ≤ 16) (hr : Space S 2 1) :
    ∃ h S1 o1, S.make (6 * t) = ((h, 0), S1) ∧ MkOk S (6 * t) ∧ h < 18446744073709551616 ∧ S1.len h = (6 * t, 0) ∧ Fit (putWords S1 h 0 (bnWords t bn0)) o1 ∧ reco S h = none ∧ (∃ ws, reco (putWords S1 h 0 (bnWords t bn0)) h = some ws ∧ ws.length = 6 * t) ∧ (∀ h', h' ≠ h → reco (putWords S1 h 0 (bnWords t bn0)) h' = reco S h') ∧ Grew S (putWords S1 h 0 (bnWords t bn0)) 2 1 := by
  have hcp : classPages (6 * t + 2) ≤ 2 := Nat.le_trans (classPages_small (by omega) (by omega)) (by omega)
  have hr2 := hr.mono hcp (Nat.le_refl 1)
  obtain ⟨h, S1, o1, ws, e, hf1, hn, hlen, hl, ho, hg, _⟩ := make_fit hf (n := 6 * t) (by omega) hr2
  have hok := make_ok hf (n := 6 * t) (by omega) hr2
  obtain ⟨q1, q2, q3, q4⟩ := look_putAll hf1 hl (l := bnWords t bn0) (by rw [bnWords_length, hlen]) (bn0_lt t)
  exact ⟨h, S1, o1, e, hok, (look_ok hf1 hl).2.1, by rw [look_len hf1.tab hl, hlen], q1, hn, ⟨_, q2, bnWords_length _ _⟩, fun h' hne => (q3 h' hne).trans (ho h' hne), (hg.trans q4).mono (by omega) (by omega)⟩
structure SpOn (w : World) (bt bl D ps t : Nat) (v : Value) (L : List Nat) : Prop where
  box : w.heap[bl]? = some (.cells #[v] 170 (0, 0))
  tree : w.heap[bt]? = some (.cells #[PV ps, .int .i64 t] 221 (0, 0))
  row : OwnH w D v L
  lo : bl < D ∧ bt < D ∧ bl ≠ bt
def SpY (bt bl : Nat) (v : Value) : Nat → Prop := fun k => k = bt ∨ k = bl ∨ v.ownBlock = some k
theorem bt_maker {w : World} {ps : Nat} {S : St} {o : Nat → Nat} {Y : Nat → Prop} (h : StOn w ps S Y) (hf : Fit S o) {t : Nat} (t1 : 2 ≤ t) (t2 : t ≤ 16) (n : Nat) (hn : n ≤ 1000) (hr : Space S (2 * n) n) :
    Calls Tryz.prog 192 #[trB ps t, .int .i64 n] w fun e w' => e = .returned (.tuple #[.func (.func 229) #[] #[PV (w.heap.size + 1), PV w.heap.size], .int .i64 0]) ∧
      ∃ S' o' v L, StOn w' ps S' (fun k => Y k ∨ SpY w.heap.size (w.heap.size + 1) v k) ∧ Keep Y w w' ∧ SpOn w' w.heap.size (w.heap.size + 1) (w.heap.size + 2) ps t v L ∧ Fit S' o' ∧ L.length = n ∧ Spare S' t L ∧ (∀ h ∈ L, reco S h = none) ∧ (∀ h, h ∉ L → reco S' h = reco S h) ∧ Grew S S' (2 * n) n := by
  have B0 := ((Below.refl w.heap.size w).alloc (Nat.le_refl _) (.cells #[PV ps, .int .i64 t] 221)).alloc (by simp) (.cells #[.slice none 0 0] 170)
  have z1 : (w.alloc (.cells #[PV ps, .int .i64 t] 221)).heap.size = w.heap.size + 1 := by simp
  have q1 := heap_alloc_new w (.cells #[PV ps, .int .i64 t] 221)
  have q2 := heap_alloc_new (w.alloc (.cells #[PV ps, .int .i64 t] 221)) (.cells #[.slice none 0 0] 170)
  have q3 := (((Below.refl (w.alloc (.cells #[PV ps, .int .i64 t] 221)).heap.size (w.alloc (.cells #[PV ps, .int .i64 t] 221))).alloc (Nat.le_refl _) (.cells #[.slice none 0 0] 170)).block w.heap.size (by simp)).trans q1
  rw [z1] at q2
  have hz : ((w.alloc (.cells #[PV ps, .int .i64 t] 221)).alloc (.cells #[.slice none 0 0] 170)).heap.size = w.heap.size + 2 := by simp
  have hY := h.yl
  have htb := tab_lt h
  have hst0 := (h.wide B0).mono (Z := fun k => Y k ∨ SpY w.heap.size (w.heap.size + 1) (.slice none 0 0) k) fun k hk => hk.imp id fun hk => by
    rcases hk with rfl | rfl | hk
    · exact ⟨Nat.le_refl _, by rw [hz]; omega⟩
    · exact ⟨by omega, by rw [hz]; omega⟩
    · cases hk
  have hk0 := h.keep B0
  generalize hW : (w.alloc (.cells #[PV ps, .int .i64 t] 221)).alloc (.cells #[.slice none 0 0] 170) = W0 at *
  have HG := Lib.hid (And.intro hf (And.intro hr (And.intro hY htb)))
  have H0 := Lib.hid (And.intro hst0 (And.intro hk0 (And.intro q2 q3)))
  have HZ := Lib.hid hz
  unfold trB
  clear h hf hr B0 z1 q1 q2 q3 hst0 hk0 hY htb hz
  go_enter Tryz.func192, Tryz.ntmps192
  go_wp2_with fail
  clear hW
  go_loopw [7, 8, 10, 12] (fun _ _ _ s12 wr => ∃ j : Nat, j ≤ n ∧ s12 = .int .i64 j ∧ Hid (∃ S' o' v L, StOn wr ps S' (fun k => Y k ∨ SpY w.heap.size (w.heap.size + 1) v k) ∧ Keep Y w wr ∧ w.heap.size + 2 ≤ wr.heap.size ∧ SpOn wr w.heap.size (w.heap.size + 1) (w.heap.size + 2) ps t v L ∧ Fit S' o' ∧ L.length = j ∧ Spare S' t L ∧ (∀ h ∈ L, reco S h = none) ∧ (∀ h, h ∉ L → reco S' h = reco S h) ∧ Grew S S' (2 * j) j)) (fun _ _ _ s12 _ => n - (intOf s12).toNat)
  case atStart => exact ⟨0, by omega, rfl, S, o, .slice none 0 0, [], H0.out.1, H0.out.2.1, by rw [HZ.out]; exact Nat.le_refl _, ⟨H0.out.2.2.1, H0.out.2.2.2, World.ownsRow_nil _ _ _ _, by omega⟩, HG.out.1, rfl, ⟨List.nodup_nil, fun _ hh => (nomatch hh)⟩, fun _ hh => (nomatch hh), fun _ _ => rfl, Grew.refl S⟩
  case round =>
    obtain ⟨j, hjn, rfl, I⟩ := hrel
    obtain ⟨S', o', v, L, st, kp, hsz, sp, hf, hL, spa, hnew, hfr, hgr⟩ := I.out
    by_cases hlt : j < n
    · have hlt2 : (j : Int) < n := by omega
      have hsp := (HG.out.2.1.mono (p' := 2 * j + 2) (q' := j + 1) (by omega) (by omega)).grew hgr
      obtain ⟨hh, S1, o1, e, hok, hhl, hlen, f2, hno, hws, hot, g2⟩ := spare_make hf t1 t2 hsp
      have hmk := bnode_make0 st hf.inv t1 t2 hok e hhl hlen
      obtain ⟨S2, hS2⟩ : ∃ S2, putWords S1 hh 0 (bnWords t bn0) = S2 := ⟨_, rfl⟩
      rw [hS2] at hmk f2 hws hot g2
      unfold bnV at hmk
      have t3 := sp.tree
      have x0 : (wr).cell? ⟨w.heap.size, 0, none⟩ = some (PV ps) := by rw [cell_of_block t3]; rfl
      have x1 : (wr).cell? ⟨w.heap.size, 1, none⟩ = some (.int .i64 t) := by rw [cell_of_block t3]; rfl
      have HM := Lib.hid hmk
      have HI := Lib.hid (And.intro st (And.intro kp (And.intro sp (And.intro f2 (And.intro hL (And.intro spa (And.intro hnew (And.intro hfr (And.intro hgr (And.intro hno (And.intro hws (And.intro hot (And.intro g2 hsz)))))))))))))
      clear st kp sp hf spa hnew hfr hgr hsp e hok hlen f2 hno hws hot g2 hmk t3 hS2 hL hsz
      go_wp2_with fail
      refine HM.out.mono ?_
      rintro e w1 ⟨rfl, st1, k1⟩
      have b1 := (k1.block (w.heap.size + 1) (Or.inr (Or.inr (Or.inl rfl)))).trans HI.out.2.2.1.box
      have tr1 := (k1.block w.heap.size (Or.inr (Or.inl rfl))).trans HI.out.2.2.1.tree
      have own1 : OwnH w1 (w.heap.size + 2) v L := HI.out.2.2.1.row.at fun g e => k1.block g (Or.inr (Or.inr (Or.inr e)))
      have hDs : w.heap.size + 2 ≤ w1.heap.size := Nat.le_trans HI.out.2.2.2.2.2.2.2.2.2.2.2.2.2 k1.size
      obtain ⟨v2, w2, hr2, ho2, hg2, hv2⟩ := append_handle own1 (by have := HI.out.2.2.2.2.1; omega) hh hDs 170
      obtain ⟨A2, m2, c2, rfl⟩ := ho2.slice
      have hob : ∀ g, v.ownBlock = some g → w.heap.size + 2 ≤ g := fun g e => (own1.ge g e).1
      have bnr : ∀ k, k < w.heap.size + 2 → w2.heap[k]? = w1.heap[k]? := fun k hk => hg2.block k (by omega) fun e => by have := hob k e.symm; omega
      have b2 := (bnr (w.heap.size + 1) (by omega)).trans b1
      have c0 : w1.cell? ⟨w.heap.size + 1, 0, none⟩ = some v := by rw [cell_of_block b1]; rfl
      have d0 : w2.cell? ⟨w.heap.size + 1, 0, none⟩ = some v := by rw [cell_of_block b2]; rfl
      have f0 : w2.frozen? ⟨w.heap.size + 1, 0, none⟩ = false := frozen_of_block b2
      have hst2 := st1.grown hg2 (fun g e => ⟨Or.inr (Or.inr (Or.inr e)), by have := hob g e; have := HG.out.2.2.2; omega, by
        rcases own1.2 with ⟨e0, _⟩ | ⟨g', cap, cur, e0, _, hg, _⟩
        · rw [e0] at e; cases e
        · rw [e0] at e
          have e : g' = g := Option.some.inj e
          subst e
          exact ⟨_, _, hg⟩⟩)
      have hst3 : StOn (w2.setCell ⟨w.heap.size + 1, 0, none⟩ (.slice A2 m2 c2)) ps S2 (fun k => Y k ∨ SpY w.heap.size (w.heap.size + 1) (.slice A2 m2 c2) k) := by
        refine (hst2.write (b := w.heap.size + 1) (Or.inl (Or.inr (Or.inr (Or.inl rfl)))) b2 ⟨by decide, by decide⟩ (by simp) (by simp) fun k _ hk => heap_setCell_ne hk).mono fun k hk => ?_
        rcases hk with hk | rfl | rfl | hk
        · exact Or.inl (Or.inl hk)
        · exact Or.inl (Or.inr (Or.inl rfl))
        · exact Or.inl (Or.inr (Or.inr (Or.inl rfl)))
        · rcases hv2 with e | ⟨g, e, hg⟩
          · rw [e] at hk; exact Or.inl (Or.inr (Or.inr (Or.inr hk)))
          · rw [e] at hk
            have hk : g = k := Option.some.inj hk
            subst hk
            exact Or.inr ⟨hg, (ho2.ge g e).2⟩
      have hkp : Keep Y w (w2.setCell ⟨w.heap.size + 1, 0, none⟩ (.slice A2 m2 c2)) := (HI.out.2.1.trans (k1.mono fun k hk => Or.inl hk)).trans ⟨hg2.os, hg2.tape, hg2.output, by simpa using hg2.size, fun k hk => by
        have hk2 := HG.out.2.2.1 k hk
        rw [heap_setCell_ne (by omega)]
        exact bnr k (by omega)⟩
      have hsp2 : SpOn (w2.setCell ⟨w.heap.size + 1, 0, none⟩ (.slice A2 m2 c2)) w.heap.size (w.heap.size + 1) (w.heap.size + 2) ps t (.slice A2 m2 c2) (L ++ [hh]) :=
        ⟨heap_setCell b2, (heap_setCell_ne (by omega)).trans ((bnr w.heap.size (by omega)).trans tr1), ho2.at fun g e => heap_setCell_ne (by have := (ho2.ge g e).1; omega), by omega⟩
      have hnL : hh ∉ L := fun hm => by
        obtain ⟨ws, e, _⟩ := HI.out.2.2.2.2.2.1.recs hh hm
        rw [HI.out.2.2.2.2.2.2.2.2.2.1] at e
        cases e
      have hfin : ∃ S' o' v L, StOn (w2.setCell ⟨w.heap.size + 1, 0, none⟩ (.slice A2 m2 c2)) ps S' (fun k => Y k ∨ SpY w.heap.size (w.heap.size + 1) v k) ∧ Keep Y w (w2.setCell ⟨w.heap.size + 1, 0, none⟩ (.slice A2 m2 c2)) ∧ w.heap.size + 2 ≤ (w2.setCell ⟨w.heap.size + 1, 0, none⟩ (.slice A2 m2 c2)).heap.size ∧ SpOn (w2.setCell ⟨w.heap.size + 1, 0, none⟩ (.slice A2 m2 c2)) w.heap.size (w.heap.size + 1) (w.heap.size + 2) ps t v L ∧ Fit S' o' ∧ L.length = j + 1 ∧ Spare S' t L ∧ (∀ h ∈ L, reco S h = none) ∧ (∀ h, h ∉ L → reco S' h = reco S h) ∧ Grew S S' (2 * (j + 1)) (j + 1) := by
        refine ⟨S2, o1, .slice A2 m2 c2, L ++ [hh], hst3, hkp, by rw [size_setCell]; exact Nat.le_trans hDs hg2.size, hsp2, HI.out.2.2.2.1, by rw [List.length_append, HI.out.2.2.2.2.1]; rfl, ⟨?_, fun y hy => ?_⟩, fun y hy => ?_, fun y hy => ?_, (HI.out.2.2.2.2.2.2.2.2.1.trans HI.out.2.2.2.2.2.2.2.2.2.2.2.2.1).mono (by omega) (Nat.le_refl _)⟩
        · refine List.nodup_append.2 ⟨HI.out.2.2.2.2.2.1.nd, by simp, fun a ha b hb e => ?_⟩
          rw [List.mem_singleton.1 hb] at e
          exact hnL (e ▸ ha)
        · rcases List.mem_append.1 hy with hy | hy
          · obtain ⟨ws, e, hw⟩ := HI.out.2.2.2.2.2.1.recs y hy
            exact ⟨ws, (HI.out.2.2.2.2.2.2.2.2.2.2.2.1 y fun q => hnL (q ▸ hy)).trans e, hw⟩
          · rw [List.mem_singleton.1 hy]; exact HI.out.2.2.2.2.2.2.2.2.2.2.1
        · rcases List.mem_append.1 hy with hy | hy
          · exact HI.out.2.2.2.2.2.2.1 y hy
          · rw [List.mem_singleton.1 hy, ← HI.out.2.2.2.2.2.2.2.1 hh hnL]; exact HI.out.2.2.2.2.2.2.2.2.2.1
        · exact (HI.out.2.2.2.2.2.2.2.2.2.2.2.1 y fun q => hy (List.mem_append_right _ (q ▸ List.mem_cons_self ..))).trans (HI.out.2.2.2.2.2.2.2.1 y fun q => hy (List.mem_append_left _ q))
      have HF := Lib.hid hfin
      clear hfin hst2 hst3 hkp hsp2 hnL b1 b2 tr1 own1 ho2 hg2 hv2 hob bnr st1 k1 hDs x0 x1
      go_wp2_with (at_builtin; refine Lib.wpList_append_run _ rfl _ _ _ _ rfl _ _ rfl rfl _ _ hr2 ?_)
      go_roundw
      case rel => exact ⟨j + 1, by omega, by simp, HF.out⟩
      case measure => simp [intOf]; omega
    · obtain rfl : j = n := by omega
      have hlt2 : ¬ (j : Int) < j := by omega
      have HI := Lib.hid (And.intro st (And.intro kp (And.intro sp (And.intro hf (And.intro hL (And.intro spa (And.intro hnew (And.intro hfr hgr))))))))
      clear st kp sp hf spa hnew hfr hgr hL hsz
      go_wp2_with fail
      go_ret2
      exact ⟨rfl, S', o', v, HI.out.1, HI.out.2.1, L, HI.out.2.2⟩
end Go.Proofs.YtepdkbmnkjfcpaaGreatDoor
namespace Go.Proofs.YtepdkbmnkjfcpaaGreatDoor
open Go.RowKit Go.BigFrame Go.Maps Go.WideMaps Lf Tr
open Go.Shelf
theorem HRow.keeps {w w' : World} {v : Value} {l : List Nat} (h : HRow w v l) (e : ∀ g, v.ownBlock = some g → g < w.heap.size → w'.heap[g]? = w.heap[g]?) : HRow w' v l := by
  obtain ⟨A, c, rfl, hc⟩ := h
  refine ⟨A, c, rfl, fun i hi => ?_⟩
  obtain ⟨g, o, rfl, h1⟩ := hc i hi
  exact ⟨g, o, rfl, (World.cell?_of_block (e g rfl (hcell_lt h1))).trans h1⟩
theorem OwnH.short {w : World} {D b c : Nat} {L : List Nat} {g : Nat} (h : OwnH w D (.slice (some ⟨b, 0, none⟩) (L.length + 1) c) (L ++ [g])) : OwnH w D (.slice (some ⟨b, 0, none⟩) L.length c) L := by
  refine ⟨by simp [hV], ?_⟩
  rcases h.2 with ⟨e, _⟩ | ⟨b', c', cur, e, hb, hg, hnc, hcm, hcs, ht⟩
  · cases e
  · injection e with e1 e2 e3
    injection e1 with e1
    injection e1 with e1
    subst e1 e3
    rw [List.length_append, List.length_singleton] at hnc ht
    refine Or.inr ⟨b, c, cur, rfl, hb, hg, by omega, hcm, hcs, ?_⟩
    rw [Nat.mul_one] at ht ⊢
    have h2 : (cur.toList.take (L.length + 1)).take L.length = (hV (L ++ [g])).take L.length := by rw [ht]
    rw [List.take_take, Nat.min_eq_left (by omega)] at h2
    rw [h2]
    unfold hV
    rw [List.map_append, List.take_left' (by simp)]
theorem bt_take {w : World} {ps : Nat} {S : St} {Z : Nat → Prop} {bt bl D t g : Nat} {v : Value} {L : List Nat} (h : StOn w ps S Z) (hi : Inv S) (sp : SpOn w bt bl D ps t v (L ++ [g])) (zb : Z bl) (zt : Z bt) (zv : ∀ b, v.ownBlock = some b → Z b) (hL : L.length ≤ 1000)
    {n : BN} {vk vv vc : Value} (hn : BnOk t n) (hk : HRow w vk n.keys) (hv : HRow w vv n.vals) (hc : HRow w vc n.kids) (nk : ∀ b, vk.ownBlock = some b → b ≠ bl) (nv : ∀ b, vv.ownBlock = some b → b ≠ bl) (nc : ∀ b, vc.ownBlock = some b → b ≠ bl)
    (hg : g < 18446744073709551616) (hlen : S.len g = (6 * t, 0)) (hlt : ∀ x ∈ bnWords t n, x < 18446744073709551616) :
    Calls Tryz.prog 229 #[bnV vk vv vc n.size, PV bl, PV bt] w fun e w' => e = .returned (.int .u64 g) ∧ ∃ v', StOn w' ps (putWords S g 0 (bnWords t n)) Z ∧ Keep (fun k => Z k ∧ k ≠ bl) w w' ∧ SpOn w' bt bl D ps t v' L ∧ v'.ownBlock = v.ownBlock := by
  have hY := h.yl
  obtain ⟨b, c, hvb⟩ : ∃ b c, v = .slice (some ⟨b, 0, none⟩) (L.length + 1) c := by
    rcases sp.row.2 with ⟨_, e⟩ | ⟨b, c, cur, e, _⟩
    · simp at e
    · exact ⟨b, c, by rw [e]; simp⟩
  subst hvb
  have hrow := sp.row
  have hbD := (hrow.ge b rfl).1
  have hsh := hrow.short
  have hNc : L.length ≤ c := by
    rcases hrow.2 with ⟨e, _⟩ | ⟨b', c', cur, e, hb, hg', hnc, hcm, hcs, ht⟩
    · cases e
    · injection e with e1 e2 e3
      subst e3
      rw [List.length_append, List.length_singleton] at hnc
      omega
  have hcg : w.cell? ⟨b, L.length, none⟩ = some (.int .u64 g) := by
    have := World.ownsRow.cells hrow (g := b) rfl L.length (.int .u64 g) (by simp [hV])
    rw [Addr.add_lit] at this
    simpa using this
  obtain ⟨Ak, ck, rfl, hk'⟩ := id hk
  obtain ⟨Av, cv, rfl, hv'⟩ := id hv
  obtain ⟨Ac, cc, rfl, hc'⟩ := id hc
  clear hk' hv' hc'
  have B0 := (Below.refl w.heap.size w).alloc (Nat.le_refl _) (.cells #[.slice Ak n.keys.length ck, .slice Av n.vals.length cv, .slice Ac n.kids.length cc, .int .u64 n.size] 267)
  have q0 := heap_alloc_new w (.cells #[.slice Ak n.keys.length ck, .slice Av n.vals.length cv, .slice Ac n.kids.length cc, .int .u64 n.size] 267)
  obtain ⟨W0, hW⟩ : ∃ W0, w.alloc (.cells #[.slice Ak n.keys.length ck, .slice Av n.vals.length cv, .slice Ac n.kids.length cc, .int .u64 n.size] 267) = W0 := ⟨_, rfl⟩
  rw [hW] at B0 q0
  have hst := h.wide B0
  have q1 := (B0.block bl (hY bl zb)).trans sp.box
  have q2 := (B0.block bt (hY bt zt)).trans sp.tree
  have c1 := (B0.cell (p := ⟨b, L.length, none⟩) (hcell_lt hcg)).trans hcg
  have hnew : w.heap.size < W0.heap.size := (Array.getElem?_eq_some_iff.1 q0).1
  have hlo := sp.lo
  have hblw := hY bl zb
  have oth : ∀ k, k ≠ bl → (W0.setCell ⟨bl, 0, none⟩ (.slice (some ⟨b, 0, none⟩) L.length c)).heap[k]? = W0.heap[k]? := fun k hk => heap_setCell_ne hk
  have r1 := heap_setCell (i := 0) (v := .slice (some ⟨b, 0, none⟩) L.length c) q1
  have hst1 := hst.write (w' := W0.setCell ⟨bl, 0, none⟩ (.slice (some ⟨b, 0, none⟩) L.length c)) (b := bl) (Or.inl zb) q1 ⟨by decide, by decide⟩ (by simp) (by simp) fun k _ hk => oth k hk
  have rk := hk.keeps (w' := W0.setCell ⟨bl, 0, none⟩ (.slice (some ⟨b, 0, none⟩) L.length c)) fun x e hx => (oth x (nk x e)).trans (B0.block x hx)
  have rv := hv.keeps (w' := W0.setCell ⟨bl, 0, none⟩ (.slice (some ⟨b, 0, none⟩) L.length c)) fun x e hx => (oth x (nv x e)).trans (B0.block x hx)
  have rc := hc.keeps (w' := W0.setCell ⟨bl, 0, none⟩ (.slice (some ⟨b, 0, none⟩) L.length c)) fun x e hx => (oth x (nc x e)).trans (B0.block x hx)
  have hpu := bnode_put hst1 hi hn rk rv rc g hg hlen hlt
  have t1 := (oth bt (fun e => hlo.2.2 e.symm)).trans q2
  have t0 := (oth w.heap.size (by omega)).trans q0
  have kp0 : Keep (fun k => Z k ∧ k ≠ bl) w (W0.setCell ⟨bl, 0, none⟩ (.slice (some ⟨b, 0, none⟩) L.length c)) := (Keep.of_below B0 fun k hk => hY k hk.1).trans ⟨rfl, rfl, rfl, by simp, fun k hk => oth k hk.2⟩
  have own0 : OwnH (W0.setCell ⟨bl, 0, none⟩ (.slice (some ⟨b, 0, none⟩) L.length c)) D (.slice (some ⟨b, 0, none⟩) L.length c) L := hsh.at fun x e => (oth x (by have : b = x := Option.some.inj e; omega)).trans (B0.block x (by have : b = x := Option.some.inj e; subst this; exact hcell_lt hcg))
  have hzb := zv b rfl
  unfold bnV at hpu ⊢
  generalize n.keys.length = lk at *
  generalize n.vals.length = lv at *
  generalize n.kids.length = lc at *
  generalize n.size = sz at *
  have l0 : (W0).cell? ⟨bl, 0, none⟩ = some (.slice (some ⟨b, 0, none⟩) (L.length + 1) c) := by rw [cell_of_block q1]; rfl
  have f0 : (W0).frozen? ⟨bl, 0, none⟩ = false := frozen_of_block q1
  obtain ⟨N, hN⟩ : ∃ N, L.length = N := ⟨_, rfl⟩
  rw [hN] at hNc hL c1 l0 hpu r1 t1 t0 kp0 own0 rk rv rc hst1 oth
  obtain ⟨W1, hW1⟩ : ∃ W1, W0.setCell ⟨bl, 0, none⟩ (.slice (some ⟨b, 0, none⟩) N c) = W1 := ⟨_, rfl⟩
  rw [hW1] at hpu r1 t1 t0 kp0 own0
  have x0 : (W1).cell? ⟨bt, 0, none⟩ = some (PV ps) := by rw [cell_of_block t1]; rfl
  have x1 : (W1).cell? ⟨bt, 1, none⟩ = some (.int .i64 t) := by rw [cell_of_block t1]; rfl
  have y0 : (W1).cell? ⟨w.heap.size, 0, none⟩ = some (.slice Ak lk ck) := by rw [cell_of_block t0]; rfl
  have y1 : (W1).cell? ⟨w.heap.size, 1, none⟩ = some (.slice Av lv cv) := by rw [cell_of_block t0]; rfl
  have y2 : (W1).cell? ⟨w.heap.size, 2, none⟩ = some (.slice Ac lc cc) := by rw [cell_of_block t0]; rfl
  have y3 : (W1).cell? ⟨w.heap.size, 3, none⟩ = some (.int .u64 sz) := by rw [cell_of_block t0]; rfl
  have HP := Lib.hid hpu
  have HF := Lib.hid (And.intro r1 (And.intro t1 (And.intro kp0 (And.intro own0 (And.intro zb (And.intro zt (And.intro hzb (And.intro hlo hN))))))))
  have hN1 : ((N : Int) + 1 == 0) = false := by simp; omega
  have hN2 : ¬ ((N : Int) + 1 = 0) := by omega
  have hN3 : IntKind.i64.wrap ((N : Int) + 1 - 1) = N := by rw [Int.add_sub_cancel]; exact IntWalk.i64_in _ (by omega)
  have hN4 : (N : Int) < (N : Int) + 1 := by omega
  clear h hi sp zb zt zv hn hk hv hc nk nv nc hlen hlt hY hrow hbD hsh hcg B0 q0 hst q1 q2 hnew hlo hblw oth r1 hst1 rk rv rc hpu t1 t0 kp0 own0 hzb hN
  go_enter Tryz.func229, Tryz.ntmps229
  go_wp2_with fail
  refine HP.out.mono ?_
  rintro e w2 ⟨rfl, st2, k2⟩
  have HS := Lib.hid (And.intro st2 k2)
  clear st2 k2
  go_wp2_with fail
  go_ret
  obtain ⟨r1, t1, kp0, own0, zb, zt, hzb, hlo, hN⟩ := HF.out
  have k2 := HS.out.2
  refine ⟨rfl, .slice (some ⟨b, 0, none⟩) N c, HS.out.1.mono fun k hk => Or.inl hk, kp0.trans (k2.mono fun k hk => Or.inl hk.1), ⟨(k2.block bl (Or.inl zb)).trans r1, (k2.block bt (Or.inl zt)).trans t1, own0.at fun x e => k2.block x (by have : b = x := Option.some.inj e; subst this; exact Or.inl hzb), hlo⟩, rfl⟩
end Go.Proofs.YtepdkbmnkjfcpaaGreatDoor
namespace Go.Proofs.YtepdkbmnkjfcpaaGreatDoor
open Go.RowKit Go.BigFrame Go.Maps Go.WideMaps Lf Tr
theorem bt_need0 (w : World) (ps t : Nat) (key : List UInt8) :
    Calls Tryz.prog 193 #[trB ps t, .int .u64 0, SV key] w fun e w' => e = .returned (.int .i64 1) ∧ Below w.heap.size w w' := by
  have B0 := (Below.refl w.heap.size w).alloc (Nat.le_refl _) (.cells #[PV ps, .int .i64 t] 221)
  have HB := Lib.hid B0
  clear B0
  unfold trB
  go_enter Tryz.func193, Tryz.ntmps193
  go_wp2_with fail
  go_ret
  exact ⟨rfl, HB.out⟩
theorem bt_down0 {w : World} {ps : Nat} {S : St} {Y : Nat → Prop} (h : StOn w ps S Y) (hi : Inv S) {t : Nat} (t1 : 2 ≤ t) (t2 : t ≤ 16) (hh : Nat) (hl : hh < 18446744073709551616) (hlen : S.len hh = (0, 7)) (key : List UInt8) :
    Calls Tryz.prog 225 #[trB ps t, .int .u64 hh, SV key] w fun e w' => e = .returned (.tuple #[itO none, .bool (none : Option It).isSome, .int .i64 (0 : Nat)]) ∧ Below w.heap.size w w' := by
  have B0 := ((Below.refl w.heap.size w).alloc (Nat.le_refl _) (.cells #[PV ps, .int .i64 t] 221)).alloc (by simp) (.cells #[.int .u64 0, .int .u64 0] 105)
  have z1 : (w.alloc (.cells #[PV ps, .int .i64 t] 221)).heap.size = w.heap.size + 1 := by simp
  have q1 := heap_alloc_new w (.cells #[PV ps, .int .i64 t] 221)
  have q2 := heap_alloc_new (w.alloc (.cells #[PV ps, .int .i64 t] 221)) (.cells #[.int .u64 0, .int .u64 0] 105)
  have q3 := (((Below.refl (w.alloc (.cells #[PV ps, .int .i64 t] 221)).heap.size (w.alloc (.cells #[PV ps, .int .i64 t] 221))).alloc (Nat.le_refl _) (.cells #[.int .u64 0, .int .u64 0] 105)).block w.heap.size (by simp)).trans q1
  rw [z1] at q2
  have hz : w.heap.size + 2 ≤ ((w.alloc (.cells #[PV ps, .int .i64 t] 221)).alloc (.cells #[.int .u64 0, .int .u64 0] 105)).heap.size := by simp
  generalize hW : (w.alloc (.cells #[PV ps, .int .i64 t] 221)).alloc (.cells #[.int .u64 0, .int .u64 0] 105) = W0 at *
  have hget := bt_get0 (h.below B0) hi t1 t2 hh hl hlen
  unfold trB bnV at hget
  unfold trB
  have HG := Lib.hid (And.intro (And.intro B0 (And.intro q2 (And.intro q3 hz))) hget)
  clear hget h hi B0 q1 q2 q3 z1 hz hlen
  go_enter Tryz.func225, Tryz.ntmps225
  go_wp2_with fail
  clear hW
  go_loopw [1, 7, 8, 9, 10, 11, 12, 13, 14] (fun s1 s7 s8 _ _ _ _ _ s14 wr => s1 = .int .u64 hh ∧ s7 = .bool false ∧ s8 = .int .i64 0 ∧ s14 = .int .i64 0 ∧ wr = W0) (fun _ _ _ _ _ _ _ _ _ _ => 0)
  case atStart => exact ⟨rfl, rfl, rfl, rfl, rfl⟩
  case round =>
    obtain ⟨rfl, rfl, rfl, rfl, rfl⟩ := hrel
    have t3 := HG.out.1.2.2.1
    have x0 : (wr).cell? ⟨w.heap.size, 0, none⟩ = some (PV ps) := by rw [cell_of_block t3]; rfl
    have x1 : (wr).cell? ⟨w.heap.size, 1, none⟩ = some (.int .i64 t) := by rw [cell_of_block t3]; rfl
    clear t3
    go_wp2_with fail
    refine HG.out.2.mono ?_
    rintro e w1 ⟨rfl, hb⟩
    have A1 := (Below.refl w1.heap.size w1).alloc (Nat.le_refl _) (.cells #[.slice none 0 0, .slice none 0 0, .slice none 0 0, .int .u64 0] 267)
    have q6 := (hb.block (w.heap.size + 1) (by have := HG.out.1.2.2.2; omega)).trans HG.out.1.2.1
    have r6 := (A1.block (w.heap.size + 1) (Array.getElem?_eq_some_iff.1 q6).1).trans q6
    have HB := Lib.hid (And.intro (HG.out.1.1.trans ((hb.trans (A1.mono hb.size)).mono HG.out.1.1.size)) r6)
    have z0 : ((w1.alloc (.cells #[.slice none 0 0, .slice none 0 0, .slice none 0 0, .int .u64 0] 267))).cell? ⟨w.heap.size + 1, 0, none⟩ = some (.int .u64 0) := by rw [cell_of_block r6]; rfl
    have z1 : ((w1.alloc (.cells #[.slice none 0 0, .slice none 0 0, .slice none 0 0, .int .u64 0] 267))).cell? ⟨w.heap.size + 1, 1, none⟩ = some (.int .u64 0) := by rw [cell_of_block r6]; rfl
    have f0 : ((w1.alloc (.cells #[.slice none 0 0, .slice none 0 0, .slice none 0 0, .int .u64 0] 267))).frozen? ⟨w.heap.size + 1, 0, none⟩ = false := frozen_of_block r6
    have f1 : ((w1.alloc (.cells #[.slice none 0 0, .slice none 0 0, .slice none 0 0, .int .u64 0] 267))).frozen? ⟨w.heap.size + 1, 1, none⟩ = false := frozen_of_block r6
    clear hb A1 q6 r6
    go_wp2_with fail
    generalize w1.alloc (.cells #[.slice none 0 0, .slice none 0 0, .slice none 0 0, .int .u64 0] 267) = WX at *
    have eW := st2_heap HB.out.2 (.int .u64 0) (.int .u64 0)
    have BF := st2_below HB.out.1 (b := w.heap.size + 1) (by omega) (.int .u64 0) (.int .u64 0)
    generalize ((WX.setCell ⟨w.heap.size + 1, 0, none⟩ (.int .u64 0)).setCell ⟨w.heap.size + 1, 1, none⟩ (.int .u64 0)) = WF at *
    have e0 : (WF).cell? ⟨w.heap.size + 1, 0, none⟩ = some (.int .u64 0) := by rw [cell_of_block eW]; rfl
    have e1 : (WF).cell? ⟨w.heap.size + 1, 1, none⟩ = some (.int .u64 0) := by rw [cell_of_block eW]; rfl
    exact bodyPost_ret (v := .tuple #[.agg #[.int .u64 0, .int .u64 0], .bool false, .int .i64 0]) (by simp [results, Tryz.f225, go_sem, e0, e1]) rfl ⟨rfl, BF⟩
end Go.Proofs.YtepdkbmnkjfcpaaGreatDoor
namespace Go.Proofs.YtepdkbmnkjfcpaaGreatDoor.Qz
open Go Go.RowKit Qw
section
variable {P : Program} {ops : Array Oper} {l : List Oper} {md : Region.Mode} {S : World → Prop} {Q : Exit → Act → World → Prop} {late : Nat → Bool}
def Closed (md : Region.Mode) (ops : Array Oper) (listed : Array Bool) : Prop := ∀ (k : Nat) (ok : Oper), ops[k]? = some ok → listed.getD k false = true → ∀ e ∈ ok.after, Region.binds md e = true → listed.getD e.on false = true
theorem Closed.set {listed : Array Bool} (h : Closed md ops listed) {j : Nat} (hj : j ∈ Region.ready md ops listed) : Closed md ops (listed.setIfInBounds j true) := fun k ok hk hl e he hb => by
  refine getD_set_true ?_
  by_cases hjk : j = k
  · subst hjk
    obtain ⟨_, o, ho, hall⟩ := mem_ready.1 hj
    rw [hk] at ho
    injection ho with ho
    subst ho
    exact hall e he hb
  · rw [getD_set_ne false hjk] at hl
    exact h k ok hk hl e he hb
end
end Qz
open Qw Qz
end Go.Proofs.YtepdkbmnkjfcpaaGreatDoor
namespace Go.Proofs.YtepdkbmnkjfcpaaGreatDoor
open Go.RowKit Go.BigFrame Go.Maps Go.WideMaps Lf Tr
open Go.Shelf
theorem OwnH.block {w : World} {B : Nat} {v : Value} {l : List Nat} (h : OwnH w B v l) {g : Nat} (hg : v.ownBlock = some g) : B ≤ g ∧ g < w.heap.size ∧ ∃ cs fr, w.heap[g]? = some (.cells cs 43 fr) := by
  rcases h.2 with ⟨e, _⟩ | ⟨b, c, cur, e, hb, hb2, hnc, hcm, hcs, ht⟩
  · rw [e] at hg; cases hg
  · rw [e] at hg
    cases hg
    exact ⟨hb, (Array.getElem?_eq_some_iff.1 hb2).1, _, _, hb2⟩
structure Ins (w w' : World) (B ps : Nat) (S : St) (Y : Nat → Prop) (v v' : Value) (l' : List Nat) : Prop where
  own : OwnH w' B v' l'
  st : StOn w' ps S (fun k => Y k ∨ (w.heap.size ≤ k ∧ k < w'.heap.size))
  grown : w.grownBy w' v.ownBlock
  at' : v'.ownBlock = v.ownBlock ∨ ∃ g, v'.ownBlock = some g ∧ w.heap.size ≤ g
theorem Ins.other {w w' : World} {B ps : Nat} {S : St} {Y : Nat → Prop} {v v' : Value} {l' : List Nat} (h : Ins w w' B ps S Y v v' l') {k : Nat} (hk : k < w.heap.size) (hne : v.ownBlock ≠ some k) : w'.heap[k]? = w.heap[k]? := h.grown.block k hk (Ne.symm hne)
theorem Ins.keep {w w' : World} {B ps : Nat} {S : St} {Y : Nat → Prop} {v v' : Value} {l' : List Nat} (h : Ins w w' B ps S Y v v' l') {Z : Nat → Prop} (hz : ∀ k, Z k → k < w.heap.size ∧ v.ownBlock ≠ some k) : Keep Z w w' :=
  ⟨h.grown.os, h.grown.tape, h.grown.output, h.grown.size, fun k hk => h.grown.block k (hz k hk).1 (Ne.symm (hz k hk).2)⟩
theorem Ins.row {w w' : World} {B ps : Nat} {S : St} {Y : Nat → Prop} {v v' : Value} {l' : List Nat} (h : Ins w w' B ps S Y v v' l') {B2 : Nat} {u : Value} {l2 : List Nat} (hu : OwnH w B2 u l2) (hne : ∀ g, u.ownBlock = some g → v.ownBlock ≠ some g) : OwnH w' B2 u l2 :=
  hu.at fun x e => h.other (hu.block e).2.1 (hne x e)
theorem ins_step {w : World} {B ps : Nat} {S : St} {Y : Nat → Prop} {v : Value} {l : List Nat} (h : StOn w ps S Y) (ho : OwnH w B v l) (hY : ∀ g, v.ownBlock = some g → Y g) (htab : tabB < B) (hl : l.length ≤ 1000) {i : Nat} (hi : i ≤ l.length) {x vb : Nat} (hx : w.heap[vb]? = some (.cells #[.int .u64 x] 43 (0, 0))) (hne : v.ownBlock ≠ some vb) (hB : B ≤ w.heap.size) :
    Calls Tryz.prog 230 #[v, .int .i64 i, .slice (some ⟨vb, 0, none⟩) 1 1] w fun e w' => ∃ v', e = .returned v' ∧ Ins w w' B ps S Y v v' (l.take i ++ x :: l.drop i) := by
  refine (handles_insert ho hl hi hx hne hB).mono ?_
  rintro e w' ⟨v', rfl, h1, h2, h3⟩
  refine ⟨v', rfl, h1, h.grown h2 fun g hg => ?_, h2, h3⟩
  obtain ⟨hb, _, hc⟩ := ho.block hg
  exact ⟨hY g hg, by omega, hc⟩
end Go.Proofs.YtepdkbmnkjfcpaaGreatDoor
