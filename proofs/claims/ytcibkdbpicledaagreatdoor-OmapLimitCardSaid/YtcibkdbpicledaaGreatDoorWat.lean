import Derived.Test.YtcibkdbpicledaaGreatDoorWas
import Derived.BigRegion
import Derived.RegionTactic
import Derived.ChangeAlike
set_option maxRecDepth 100000
set_option maxHeartbeats 3200000
namespace Go.Proofs.YtcibkdbpicledaaGreatDoor
open Lf
namespace Tr
def allH (l : List It) : List Nat := l.flatMap fun d => [d.h, d.kh, d.vh]
def pairs (l : List It) : List (List UInt8 × List UInt8) := l.map fun d => (d.k, d.v)
structure Bin (Ok : Tr → Prop) (S : St) (o : Nat → Nat) (t : Tr) : Prop where
 fit : Fit S o
 at' : At S t
 ok : Ok t
 nd : (allH t.its).Nodup
 blobs : ∀ d ∈ t.its, Blobs S d
 sorted : t.its.Pairwise klt
theorem allH_append (a b : List It) : allH (a ++ b) = allH a ++ allH b := by unfold allH; exact List.flatMap_append
theorem allH_cons (d : It) (b : List It) : allH (d :: b) = d.h :: d.kh :: d.vh :: allH b := rfl
theorem mem_allH {l : List It} {y : Nat} : y ∈ allH l ↔ ∃ d ∈ l, y = d.h ∨ y = d.kh ∨ y = d.vh := by
 unfold allH
 rw [List.mem_flatMap]
 simp
theorem allH_hs : ∀ {l : List It}, (allH l).Nodup → (l.map (·.h)).Nodup ∧ ∀ d ∈ l, d.kh ∉ l.map (·.h) ∧ d.vh ∉ l.map (·.h)
 | [], _ => ⟨List.nodup_nil, fun _ hd => by cases hd⟩
 | d :: l, h => by
  rw [allH_cons] at h
  obtain ⟨h1, h2⟩ := List.nodup_cons.1 h
  obtain ⟨h3, h4⟩ := List.nodup_cons.1 h2
  obtain ⟨h5, h6⟩ := List.nodup_cons.1 h4
  obtain ⟨g1, g2⟩ := allH_hs h6
  simp only [List.mem_cons, not_or] at h1 h3
  have hin : ∀ x ∈ l, x.h ∈ allH l ∧ x.kh ∈ allH l ∧ x.vh ∈ allH l := fun x hx => ⟨mem_allH.2 ⟨x, hx, Or.inl rfl⟩, mem_allH.2 ⟨x, hx, Or.inr (Or.inl rfl)⟩, mem_allH.2 ⟨x, hx, Or.inr (Or.inr rfl)⟩⟩
  have hm : ∀ y, y ∉ allH l → y ∉ l.map (·.h) := fun y hy hm => by
   obtain ⟨x, hx, rfl⟩ := List.mem_map.1 hm
   exact hy (hin x hx).1
  refine ⟨List.nodup_cons.2 ⟨hm _ h1.2.2, g1⟩, fun x hx => ?_⟩
  rw [List.map_cons]
  simp only [List.mem_cons, not_or]
  rcases List.mem_cons.1 hx with rfl | hx
  · exact ⟨⟨fun e => h1.1 e.symm, hm _ h3.2⟩, fun e => h1.2.1 e.symm, hm _ h5⟩
  · exact ⟨⟨fun e => h1.2.2 (e ▸ (hin x hx).2.1), (g2 x hx).1⟩, fun e => h1.2.2 (e ▸ (hin x hx).2.2), (g2 x hx).2⟩
theorem Bin.hs {Ok : Tr → Prop} {S : St} {o : Nat → Nat} {t : Tr} (h : Bin Ok S o t) : t.hs.Nodup ∧ ∀ d ∈ t.its, d.kh ∉ t.hs ∧ d.vh ∉ t.hs := allH_hs h.nd
theorem nodup_le {l m : List Nat} (h : l.Nodup) (hs : ∀ y ∈ l, y ∈ m) : l.length ≤ m.length := by
 induction l generalizing m with
 | nil => exact Nat.zero_le _
 | cons x r ih =>
  obtain ⟨h1, h2⟩ := List.nodup_cons.1 h
  have hx := hs x (List.mem_cons_self ..)
  have := ih h2 (m := m.erase x) fun y hy => by
   have hy2 := hs y (List.mem_cons_of_mem _ hy)
   have hne : y ≠ x := fun e => h1 (e ▸ hy)
   exact (List.mem_erase_of_ne hne).2 hy2
  rw [List.length_erase_of_mem hx] at this
  have : 0 < m.length := List.length_pos_of_mem hx
  simp only [List.length_cons]
  omega
theorem nodup_map_inj {f : Nat → Nat} : ∀ {l : List Nat}, (∀ x ∈ l, ∀ y ∈ l, f x = f y → x = y) → l.Nodup → (l.map f).Nodup
 | [], _, _ => List.nodup_nil
 | x :: l, h, hn => by
  obtain ⟨h1, h2⟩ := List.nodup_cons.1 hn
  rw [List.map_cons]
  refine List.nodup_cons.2 ⟨fun hm => ?_, nodup_map_inj (fun a ha b hb => h a (List.mem_cons_of_mem _ ha) b (List.mem_cons_of_mem _ hb)) h2⟩
  obtain ⟨y, hy, e⟩ := List.mem_map.1 hm
  have := h y (List.mem_cons_of_mem _ hy) x (List.mem_cons_self ..) e
  exact h1 (this ▸ hy)
theorem sum_eights (n : Nat) : (List.replicate n 8).sum = n * 8 := by
 induction n with
 | zero => rfl
 | succ n ih => rw [List.replicate_succ, List.sum_cons, ih]; omega
theorem eighth {S : St} {o : Nat → Nat} (hf : Fit S o) {h : Nat} {ws : List Nat} (hl : reco S h = some ws) (hw : 6 ≤ ws.length) : ∃ a r, Place S.a o a r ∧ 8 ≤ r ∧ ∃ (k : Nat) (x : Slot), S.t.slots[k]? = some x ∧ x.is = 1 ∧ h = nameOf x.gen k ∧ x.addr = a := by
 obtain ⟨k, x, hx, h1, h2, rfl⟩ := (look_iff hf.tab).1 hl
 obtain ⟨r, g1, g2, g3⟩ := hf.live k x hx h1
 rw [wordsAt_length] at hw
 exact ⟨x.addr, r, g1, by omega, k, x, hx, h1, h2, rfl⟩
theorem recs_le {S : St} {o : Nat → Nat} (hf : Fit S o) {l : List Nat} (hn : l.Nodup) (hl : ∀ h ∈ l, ∃ ws, reco S h = some ws ∧ 6 ≤ ws.length) : l.length ≤ 8 * S.a.pages.length := by
 have key : ∀ h ∈ l, ∃ a r, Place S.a o a r ∧ 8 ≤ r ∧ ∃ (k : Nat) (x : Slot), S.t.slots[k]? = some x ∧ x.is = 1 ∧ h = nameOf x.gen k ∧ x.addr = a := fun h hm => by
  obtain ⟨ws, h1, h2⟩ := hl h hm
  exact eighth hf h1 h2
 let f : Nat → Nat := fun h => if hm : h ∈ l then (key h hm).choose / 8 else 0
 have hfv : ∀ h (hm : h ∈ l), f h = (key h hm).choose / 8 := fun h hm => by simp only [f, dif_pos hm]
 have hinj : (l.map f).Nodup := by
  refine nodup_map_inj ?_ hn
  intro x hx y hy he
  rw [hfv x hx, hfv y hy] at he
  obtain ⟨r, p1, q1, k1, s1, a1, b1, c1, d1⟩ := (key x hx).choose_spec
  obtain ⟨r', p2, q2, k2, s2, a2, b2, c2, d2⟩ := (key y hy).choose_spec
  generalize (key x hx).choose = A at *
  generalize (key y hy).choose = B at *
  rcases Place.apart hf.own p1 p2 with g | g | g
  · have e : k1 = k2 := hf.inj k1 k2 s1 s2 a1 a2 b1 b2 (by rw [d1, d2]; exact g.1)
    subst e
    rw [a1] at a2
    injection a2 with a2
    subst a2
    rw [c1, c2]
  · omega
  · omega
 have hsub : ∀ y ∈ l.map f, y ∈ S.a.keys.flatMap fun p => (List.range 8).map fun j => 8 * p + j := by
  intro y hy
  obtain ⟨h, hm, rfl⟩ := List.mem_map.1 hy
  rw [hfv h hm]
  obtain ⟨r, p1, q1, _⟩ := (key h hm).choose_spec
  generalize (key h hm).choose = A at *
  have hp := (p1.ok hf.own (b := 0) (by omega)).2.2
  refine List.mem_flatMap.2 ⟨A / 64, hp, List.mem_map.2 ⟨A / 8 % 8, List.mem_range.2 (by omega), by omega⟩⟩
 have := nodup_le hinj hsub
 rw [List.length_map, List.length_flatMap] at this
 have e : (S.a.keys.map fun p => ((List.range 8).map fun j => 8 * p + j).length) = S.a.keys.map fun _ => 8 := by
  refine List.map_congr_left fun p _ => ?_
  simp
 rw [e, List.map_const', sum_eights, keys_length] at this
 omega
theorem At.rec {S : St} : ∀ {t : Tr}, At S t → ∀ h ∈ t.hs, ∃ n : Nd, reco S h = some (ndWords n)
 | nil, _, h, hm => by cases hm
 | node l d m r, ⟨h1, h2, h3⟩, h, hm => by
  rw [hs_node] at hm
  rcases List.mem_append.1 hm with hm | hm
  · exact h2.rec h hm
  · rcases List.mem_cons.1 hm with rfl | hm
    · exact ⟨_, h1⟩
    · exact h3.rec h hm
theorem Bin.limit {Ok : Tr → Prop} {S : St} {o : Nat → Nat} {t : Tr} (h : Bin Ok S o t) : t.its.length < Lf.limit S := by
 have := recs_le h.fit h.hs.1 fun y hy => by
  obtain ⟨n, hn⟩ := h.at'.rec y hy
  exact ⟨_, hn, by simp [ndWords]⟩
 unfold Tr.hs at this
 rw [List.length_map] at this
 unfold Lf.limit St.words
 omega
def belowB (key : List UInt8) (l : List It) : Nat := l.countP fun d => decide (cmpB d.k key < 0)
theorem belowB_append (key : List UInt8) (a b : List It) : belowB key (a ++ b) = belowB key a + belowB key b := List.countP_append
theorem belowB_all {key : List UInt8} {l : List It} (h : ∀ d ∈ l, cmpB d.k key < 0) : belowB key l = l.length := List.countP_eq_length.2 fun d hd => by simpa using h d hd
theorem belowB_none {key : List UInt8} {l : List It} (h : ∀ d ∈ l, ¬ cmpB d.k key < 0) : belowB key l = 0 := List.countP_eq_zero.2 fun d hd => by simpa using h d hd
theorem down_fit {S : St} {o : Nat → Nat} (hf : Fit S o) (key : List UInt8) : ∀ (f : Nat) {t : Tr} {b : Nat}, At S t → (∀ d ∈ t.its, Blobs S d) → t.its.Pairwise klt → t.its.length ≤ f → b + t.its.length < 1000000 →
 ∃ hh, downM S key f t.root b = some (hh, b + belowB key t.its) ∧ ((hh = 0 ∧ ∀ d ∈ t.its, d.k ≠ key) ∨ ∃ d ∈ t.its, d.k = key ∧ hh = d.h)
 | 0, t, b, ha, hb, hs, hl, hc => by
  cases t with
  | nil => exact ⟨0, rfl, Or.inl ⟨rfl, fun _ hd => by cases hd⟩⟩
  | node l d m r => simp [its] at hl
 | f + 1, t, b, ha, hb, hs, hl, hc => by
  cases t with
  | nil => exact ⟨0, by rw [downM_succ]; rfl, Or.inl ⟨rfl, fun _ hd => by cases hd⟩⟩
  | node l d m r =>
   have g1 := ha.getNode hf
   obtain ⟨h1, h2, h3⟩ := ha
   have hd0 := (look_ok hf h1).1
   have hi : (node l d m r).its = l.its ++ d :: r.its := rfl
   rw [hi] at hb hs hl hc ⊢
   simp only [List.length_append, List.length_cons] at hl hc
   obtain ⟨s1, s2, s3⟩ := List.pairwise_append.1 hs
   obtain ⟨s4, s5⟩ := List.pairwise_cons.1 s2
   have hbd := hb d (by simp)
   have hbl := At.blob hf hbd.lk hbd.k
   have er : (node l d m r).root = d.h := rfl
   have hsz := h2.size hf (by omega)
   rw [er, downM_succ, if_neg (by omega), g1, if_neg (by simp)]
   simp only [nd]
   rw [hbl]
   simp only
   rw [belowB_append]
   by_cases c1 : cmpB key d.k < 0
   · rw [if_pos c1]
     obtain ⟨hh, e, q⟩ := down_fit hf key f h2 (fun x hx => hb x (by simp [hx])) s1 (by omega) (b := b) (by omega)
     have hz : belowB key (d :: r.its) = 0 := belowB_none fun x hx => by
      rcases List.mem_cons.1 hx with rfl | hx
      · rw [cmpB_swap]; omega
      · have := cmpB_trans c1 (s4 x hx); rw [cmpB_swap]; omega
     refine ⟨hh, by rw [e, hz]; rfl, ?_⟩
     rcases q with ⟨q1, q2⟩ | ⟨x, hx, q⟩
     · left
       refine ⟨q1, fun x hx => ?_⟩
       rcases List.mem_append.1 hx with hx | hx
       · exact q2 x hx
       · intro e
         rcases List.mem_cons.1 hx with rfl | hx
         · rw [← e, cmpB_refl] at c1; omega
         · have := cmpB_trans c1 (s4 x hx); rw [e, cmpB_refl] at this; omega
     · exact Or.inr ⟨x, by simp [hx], q⟩
   · rw [if_neg c1, hsz]
     simp only
     by_cases c2 : 0 < cmpB key d.k
     · rw [if_pos c2, num_of (by omega)]
       simp only
       have c2' : cmpB d.k key < 0 := by rw [cmpB_swap]; omega
       obtain ⟨hh, e, q⟩ := down_fit hf key f h3 (fun x hx => hb x (by simp [hx])) s5 (by omega) (b := b + (l.its.length + 1)) (by omega)
       have hz : belowB key l.its = l.its.length := belowB_all fun x hx => cmpB_trans (s3 x hx d (List.mem_cons_self ..)) c2'
       have hz2 : belowB key (d :: r.its) = belowB key r.its + 1 := by
        unfold belowB; rw [List.countP_cons, if_pos (by simpa using c2')]
       refine ⟨hh, by rw [e, hz, hz2]; congr 2; omega, ?_⟩
       rcases q with ⟨q1, q2⟩ | ⟨x, hx, q⟩
       · left
         refine ⟨q1, fun x hx => ?_⟩
         rcases List.mem_append.1 hx with hx | hx
         · intro e
           have := cmpB_trans (s3 x hx d (List.mem_cons_self ..)) c2'
           rw [e, cmpB_refl] at this; omega
         · rcases List.mem_cons.1 hx with rfl | hx
           · intro e; rw [e, cmpB_refl] at c2; omega
           · exact q2 x hx
       · exact Or.inr ⟨x, by simp [hx], q⟩
     · rw [if_neg c2, num_of (by omega)]
       have hke : key = d.k := cmpB_eq0 (by omega)
       have hz : belowB key l.its = l.its.length := belowB_all fun x hx => by rw [hke]; exact s3 x hx d (List.mem_cons_self ..)
       have hz2 : belowB key (d :: r.its) = 0 := belowB_none fun x hx => by
        rcases List.mem_cons.1 hx with rfl | hx
        · rw [hke, cmpB_refl]; omega
        · have := s4 x hx; unfold klt at this; rw [hke, cmpB_swap]; omega
       exact ⟨d.h, by rw [hz, hz2]; rfl, Or.inr ⟨d, by simp, hke.symm, rfl⟩⟩
theorem at_fit {S : St} {o : Nat → Nat} (hf : Fit S o) : ∀ (f : Nat) {t : Tr} {k : Nat} (_ : At S t) (_ : t.its.length ≤ f) (_ : t.its.length < 1000000) (hk : k < t.its.length), atM S f t.root k = some (t.its[k].h, 0)
 | 0, t, k, ha, hl, hc, hk => by omega
 | f + 1, t, k, ha, hl, hc, hk => by
  cases t with
  | nil => simp [its] at hk
  | node l d m r =>
   have g1 := ha.getNode hf
   obtain ⟨h1, h2, h3⟩ := ha
   have hi : (node l d m r).its = l.its ++ d :: r.its := rfl
   have hlen : (node l d m r).its.length = l.its.length + (r.its.length + 1) := by rw [hi]; simp
   have hsz := h2.size hf (by omega)
   have er : (node l d m r).root = d.h := rfl
   rw [er, atM_succ, g1, if_neg (by simp)]
   simp only [nd]
   rw [hsz]
   simp only
   by_cases c1 : k < l.its.length
   · rw [if_pos c1, at_fit hf f h2 (by omega) (by omega) c1]
     simp only [hi]
     rw [List.getElem_append_left c1]
   · rw [if_neg c1]
     by_cases c2 : l.its.length < k
     · rw [if_pos c2, at_fit hf f h3 (k := k - (l.its.length + 1)) (by omega) (by omega) (by omega)]
       simp only [hi]
       rw [List.getElem_append_right (by omega), List.getElem_cons, dif_neg (by omega)]
       congr 3
     · rw [if_neg c2]
       have : k = l.its.length := by omega
       subst this
       simp [hi]
theorem Bin.down {Ok : Tr → Prop} {S : St} {o : Nat → Nat} {t : Tr} (h : Bin Ok S o t) (hc : t.its.length < 100000) (key : List UInt8) : ∃ hh, downM S key (Lf.limit S) t.root 0 = some (hh, belowB key t.its) ∧ ((hh = 0 ∧ ∀ d ∈ t.its, d.k ≠ key) ∨ ∃ d ∈ t.its, d.k = key ∧ hh = d.h) := by
 obtain ⟨hh, e, q⟩ := down_fit h.fit key (Lf.limit S) h.at' h.blobs h.sorted (by have := h.limit; omega) (b := 0) (by omega)
 rw [Nat.zero_add] at e
 exact ⟨hh, e, q⟩
theorem Bin.place {Ok : Tr → Prop} {S : St} {o : Nat → Nat} {t : Tr} (h : Bin Ok S o t) (hc : t.its.length < 100000) {k : Nat} (hk : k < t.its.length) : treeAtM S t.root k = some (t.its[k].k, t.its[k].v) := by
 have hm : t.its[k] ∈ t.its := List.getElem_mem hk
 have hb := h.blobs _ hm
 have hw : walkAtM S t.root k = some (t.its[k].h, 0) := by
  unfold walkAtM
  rw [h.at'.size h.fit (by omega)]
  simp only
  rw [if_neg (by omega), at_fit h.fit _ h.at' (by have := h.limit; omega) (by omega) hk]
 have hnode : ∃ n0 : Nd, reco S t.its[k].h = some (ndWords n0) ∧ n0.key = t.its[k].kh ∧ n0.val = t.its[k].vh := by
  have : ∀ {t : Tr}, At S t → ∀ d ∈ t.its, ∃ n0 : Nd, reco S d.h = some (ndWords n0) ∧ n0.key = d.kh ∧ n0.val = d.vh := by
   intro t
   induction t with
   | nil => intro _ d hd; cases hd
   | node l e m r ih1 ih2 =>
    intro ha d hd
    obtain ⟨h1, h2, h3⟩ := ha
    rcases List.mem_append.1 (show d ∈ l.its ++ e :: r.its from hd) with hd | hd
    · exact ih1 h2 d hd
    · rcases List.mem_cons.1 hd with rfl | hd
      · exact ⟨_, h1, rfl, rfl⟩
      · exact ih2 h3 d hd
  exact this h.at' _ hm
 obtain ⟨n0, e1, e2, e3⟩ := hnode
 unfold treeAtM
 rw [hw]
 simp only
 rw [if_neg (by have := (look_ok h.fit e1).2.1; omega), getNode_look h.fit e1]
 simp only
 rw [e2, e3, At.blob h.fit hb.lk hb.k, At.blob h.fit hb.lv hb.v]
theorem Bin.over {Ok : Tr → Prop} {S : St} {o : Nat → Nat} {t : Tr} (h : Bin Ok S o t) (hc : t.its.length < 100000) {k : Nat} (hk : t.its.length ≤ k) : walkAtM S t.root k = some (0, 2) := by
 unfold walkAtM
 rw [h.at'.size h.fit (by omega)]
 simp only
 rw [if_pos hk]
end Tr
end Go.Proofs.YtcibkdbpicledaaGreatDoor
namespace Go.Proofs.YtcibkdbpicledaaGreatDoor
open Lf Tr
structure Bn (K : Type) where
 h : Nat
 es : List It
 ks : List K
def Bt : Nat → Type
 | 0 => Empty
 | d + 1 => Bn (Bt d)
namespace Bt
def weave : List It → List (List It) → List It
 | [], [] => []
 | [], k :: _ => k
 | e :: es, [] => e :: weave es []
 | e :: es, k :: ks => k ++ e :: weave es ks
def lo : List It → List (List It) → List It
 | e :: es, k :: ks => k ++ e :: lo es ks
 | _, _ => []
def hd : {d : Nat} → Bt d → Nat
 | 0, x => nomatch x
 | _ + 1, x => Bn.h x
def nk : {d : Nat} → Bt d → Nat
 | 0, x => nomatch x
 | _ + 1, x => (Bn.es x).length
def its : {d : Nat} → Bt d → List It
 | 0, x => nomatch x
 | _ + 1, x => weave (Bn.es x) ((Bn.ks x).map fun k => its k)
def nodes : {d : Nat} → Bt d → List Nat
 | 0, x => nomatch x
 | _ + 1, x => Bn.h x :: ((Bn.ks x).map fun k => nodes k).flatten
def Ok (t : Nat) : {d : Nat} → Bt d → Prop
 | 0, x => nomatch x
 | d + 1, x => (Bn.es x).length ≤ 2 * t - 1 ∧ ((Bn.ks x).length = if d = 0 then 0 else (Bn.es x).length + 1) ∧ ∀ k ∈ Bn.ks x, Ok t k ∧ t ≤ nk k + 1
theorem its_mk {d : Nat} (x : Bt (d + 1)) : its x = weave (Bn.es x) ((Bn.ks x).map its) := rfl
theorem nodes_mk {d : Nat} (x : Bt (d + 1)) : nodes x = Bn.h x :: ((Bn.ks x).map nodes).flatten := rfl
theorem weave_leaf : ∀ es : List It, weave es [] = es
 | [] => rfl
 | e :: es => by rw [weave, weave_leaf es]
theorem nil_of_zero (l : List (Bt 0)) : l = [] := by
 cases l with
 | nil => rfl
 | cons a _ => exact nomatch (a : Empty)
theorem its_leaf (x : Bt 1) : its x = Bn.es x := by rw [its_mk, nil_of_zero (Bn.ks x)]; exact weave_leaf _
theorem weave_at : ∀ (es : List It) (ks : List (List It)) (k : Nat), k ≤ es.length → ks.length = es.length + 1 → weave es ks = lo (es.take k) (ks.take k) ++ weave (es.drop k) (ks.drop k)
 | _, _, 0, _, _ => by simp [lo]
 | [], _, k + 1, h, _ => by simp at h
 | e :: es, [], k + 1, _, h => by simp at h
 | e :: es, a :: ks, k + 1, h1, h2 => by
  simp only [List.length_cons, Nat.add_le_add_iff_right, Nat.add_right_cancel_iff] at h1 h2
  have := weave_at es ks k h1 h2
  simp only [List.take_succ_cons, List.drop_succ_cons, lo, weave, this, List.append_assoc, List.cons_append]
def hiR (es : List It) (ks : List (List It)) (k : Nat) : List It :=
 match es.drop k with
 | [] => []
 | e :: r => e :: weave r (ks.drop (k + 1))
theorem weave_kid {es : List It} {ks : List (List It)} {k : Nat} (h1 : k ≤ es.length) (h2 : ks.length = es.length + 1) : weave es ks = lo (es.take k) (ks.take k) ++ (ks.getD k [] ++ hiR es ks k) := by
 rw [weave_at es ks k h1 h2]
 congr 1
 have hk : k < ks.length := by omega
 rw [List.drop_eq_getElem_cons hk, List.getD_eq_getElem?_getD, List.getElem?_eq_getElem hk]
 unfold hiR
 cases he : es.drop k with
 | nil => simp [weave]
 | cons e r => simp [weave]
theorem hiR_lt {es : List It} {ks : List (List It)} {k : Nat} (h : k < es.length) : hiR es ks k = es[k] :: weave (es.drop (k + 1)) (ks.drop (k + 1)) := by
 unfold hiR
 rw [List.drop_eq_getElem_cons h]
theorem hiR_end {es : List It} {ks : List (List It)} {k : Nat} (h : es.length ≤ k) : hiR es ks k = [] := by
 unfold hiR
 rw [List.drop_eq_nil_of_le h]
theorem lo_length : ∀ (es : List It) (ks : List (List It)), es.length = ks.length → (lo es ks).length = es.length + (ks.map List.length).sum
 | [], [], _ => rfl
 | [], _ :: _, h => by simp at h
 | _ :: _, [], h => by simp at h
 | e :: es, k :: ks, h => by
  simp only [List.length_cons, Nat.add_right_cancel_iff] at h
  have := lo_length es ks h
  simp only [lo, List.length_append, List.length_cons, this, List.map_cons, List.sum_cons]
  omega
theorem sub_weave : ∀ (es : List It) (ks : List (List It)), (ks = [] ∨ ks.length = es.length + 1) → es.Sublist (weave es ks)
 | [], _, _ => List.nil_sublist _
 | e :: es, [], _ => by rw [weave_leaf]; exact List.Sublist.refl _
 | e :: es, k :: ks, h => by
  have h : ks.length = es.length + 1 := by
   rcases h with h | h
   · cases h
   · simpa using h
  rw [weave]
  exact ((sub_weave es ks (Or.inr h)).cons_cons e).trans (List.sublist_append_right _ _)
theorem lo_below {key : List UInt8} : ∀ (es : List It) (ks : List (List It)), es.length = ks.length → (lo es ks).Pairwise klt → (∀ e ∈ es, cmpB e.k key < 0) → ∀ d ∈ lo es ks, cmpB d.k key < 0
 | [], _, _, _, _, d, hd => by cases hd
 | _ :: _, [], h, _, _, d, hd => by simp at h
 | e :: es, k :: ks, h, hp, hb, d, hd => by
  simp only [List.length_cons, Nat.add_right_cancel_iff] at h
  rw [lo] at hp hd
  obtain ⟨p1, p2, p3⟩ := List.pairwise_append.1 hp
  have he := hb e (List.mem_cons_self ..)
  rcases List.mem_append.1 hd with hd | hd
  · exact cmpB_trans (p3 d hd e (List.mem_cons_self ..)) he
  · rcases List.mem_cons.1 hd with rfl | hd
    · exact he
    · exact lo_below es ks h (List.pairwise_cons.1 p2).2 (fun e he => hb e (List.mem_cons_of_mem _ he)) d hd
theorem below_take {key : List UInt8} : ∀ {l : List It}, l.Pairwise klt → (∀ d ∈ l.take (belowB key l), cmpB d.k key < 0) ∧ (∀ d ∈ l.drop (belowB key l), ¬ cmpB d.k key < 0) ∧ belowB key l ≤ l.length
 | [], _ => ⟨by simp [belowB], by simp [belowB], Nat.le_refl _⟩
 | e :: l, h => by
  obtain ⟨h1, h2⟩ := List.pairwise_cons.1 h
  obtain ⟨g1, g2, g3⟩ := below_take (key := key) h2
  by_cases he : cmpB e.k key < 0
  · have hb : belowB key (e :: l) = belowB key l + 1 := by unfold belowB; rw [List.countP_cons_of_pos (by simpa using he)]
    rw [hb]
    refine ⟨fun d hd => ?_, fun d hd => ?_, by simp only [List.length_cons]; omega⟩
    · rw [List.take_succ_cons] at hd
      rcases List.mem_cons.1 hd with rfl | hd
      · exact he
      · exact g1 d hd
    · rw [List.drop_succ_cons] at hd
      exact g2 d hd
  · have hall : ∀ d ∈ l, ¬ cmpB d.k key < 0 := fun d hd hlt => he (cmpB_trans (h1 d hd) hlt)
    have hb : belowB key (e :: l) = 0 := belowB_none fun d hd => by
     rcases List.mem_cons.1 hd with rfl | hd
     · exact he
     · exact hall d hd
    rw [hb]
    refine ⟨by simp, fun d hd => ?_, Nat.zero_le _⟩
    rw [List.drop_zero] at hd
    rcases List.mem_cons.1 hd with rfl | hd
    · exact he
    · exact hall d hd
def findB (key : List UInt8) (l : List It) : Option It := l.find? fun d => d.k == key
theorem findB_append {key : List UInt8} {a b : List It} (h : ∀ d ∈ a, d.k ≠ key) : findB key (a ++ b) = findB key b := by
 unfold findB
 rw [List.find?_append, List.find?_eq_none.2 (fun d hd => by simpa using h d hd)]
 rfl
theorem findB_none {key : List UInt8} {a : List It} (h : ∀ d ∈ a, d.k ≠ key) : findB key a = none := List.find?_eq_none.2 fun d hd => by simpa using h d hd
theorem findB_left {key : List UInt8} {a b : List It} (h : ∀ d ∈ b, d.k ≠ key) : findB key (a ++ b) = findB key a := by
 unfold findB
 have hb : b.find? (fun d => d.k == key) = none := List.find?_eq_none.2 fun d hd => by simpa using h d hd
 rw [List.find?_append, hb]
 cases List.find? (fun d : It => d.k == key) a <;> rfl
theorem findB_cons {key : List UInt8} {e : It} {l : List It} (h : e.k = key) : findB key (e :: l) = some e := by
 unfold findB
 rw [List.find?_cons, h]
 simp
theorem ne_of_lt {key : List UInt8} {d : It} (h : cmpB d.k key < 0) : d.k ≠ key := fun e => by rw [e, cmpB_refl] at h; omega
theorem ne_of_gt {key : List UInt8} {d : It} (h : 0 < cmpB d.k key) : d.k ≠ key := fun e => by rw [e, cmpB_refl] at h; omega
structure Ord (key : List UInt8) (es : List It) (ks : List (List It)) : Prop where
 len : ks.length = es.length + 1
 lo : ∀ d ∈ lo (es.take (belowB key es)) (ks.take (belowB key es)), cmpB d.k key < 0
 le : belowB key es ≤ es.length
 hi : ∀ d ∈ hiR es ks (belowB key es), ¬ cmpB d.k key < 0
 kid : (ks.getD (belowB key es) []).Pairwise klt
 hiS : (hiR es ks (belowB key es)).Pairwise klt
 kh : ∀ a ∈ ks.getD (belowB key es) [], ∀ b ∈ hiR es ks (belowB key es), klt a b
theorem ord_of {key : List UInt8} {es : List It} {ks : List (List It)} (h : ks.length = es.length + 1) (hs : (weave es ks).Pairwise klt) : Ord key es ks := by
 have hes : es.Pairwise klt := hs.sublist (sub_weave es ks (Or.inr h))
 obtain ⟨b1, b2, b3⟩ := below_take (key := key) hes
 have hw := weave_kid (ks := ks) b3 h
 rw [hw] at hs
 obtain ⟨p1, p2, p3⟩ := List.pairwise_append.1 hs
 obtain ⟨q1, q2, q3⟩ := List.pairwise_append.1 p2
 refine ⟨h, lo_below _ _ (by rw [List.length_take, List.length_take]; omega) p1 b1, b3, ?_, q1, q2, q3⟩
 intro d hd
 by_cases hk : belowB key es < es.length
 · rw [hiR_lt hk] at hd q2
   have he := b2 es[belowB key es] (by rw [List.drop_eq_getElem_cons hk]; exact List.mem_cons_self ..)
   rcases List.mem_cons.1 hd with rfl | hd
   · exact he
   · exact fun hlt => he (cmpB_trans ((List.pairwise_cons.1 q2).1 d hd) hlt)
 · rw [hiR_end (by omega)] at hd
   cases hd
theorem Ord.parts {key : List UInt8} {es : List It} {ks : List (List It)} (h : Ord key es ks) : weave es ks = Bt.lo (es.take (belowB key es)) (ks.take (belowB key es)) ++ (ks.getD (belowB key es) [] ++ hiR es ks (belowB key es)) := weave_kid h.le h.len
theorem Ord.lo_len {key : List UInt8} {es : List It} {ks : List (List It)} (h : Ord key es ks) : (Bt.lo (es.take (belowB key es)) (ks.take (belowB key es))).length = belowB key es + ((ks.take (belowB key es)).map List.length).sum := by
 have h1 := h.le
 have h2 := h.len
 rw [lo_length _ _ (by rw [List.length_take, List.length_take]; omega), List.length_take]
 omega
theorem Ord.below {key : List UInt8} {es : List It} {ks : List (List It)} (h : Ord key es ks) : belowB key (weave es ks) = belowB key es + ((ks.take (belowB key es)).map List.length).sum + belowB key (ks.getD (belowB key es) []) := by
 rw [h.parts, belowB_append, belowB_append, belowB_all h.lo, belowB_none h.hi, h.lo_len]
 rfl
theorem Ord.here {key : List UInt8} {es : List It} {ks : List (List It)} (h : Ord key es ks) (hk : belowB key es < es.length) (he : (es[belowB key es]).k = key) : findB key (weave es ks) = some es[belowB key es] ∧ belowB key (ks.getD (belowB key es) []) = (ks.getD (belowB key es) []).length := by
 have hkid : ∀ d ∈ ks.getD (belowB key es) [], cmpB d.k key < 0 := fun d hd => by
  have := h.kh d hd es[belowB key es] (by rw [hiR_lt hk]; exact List.mem_cons_self ..)
  unfold klt at this
  rwa [he] at this
 refine ⟨?_, belowB_all hkid⟩
 rw [h.parts, findB_append fun d hd => ne_of_lt (h.lo d hd), findB_append fun d hd => ne_of_lt (hkid d hd), hiR_lt hk, findB_cons he]
theorem Ord.down {key : List UInt8} {es : List It} {ks : List (List It)} (h : Ord key es ks) (hn : ∀ hk : belowB key es < es.length, (es[belowB key es]).k ≠ key) : findB key (weave es ks) = findB key (ks.getD (belowB key es) []) := by
 rw [h.parts, findB_append fun d hd => ne_of_lt (h.lo d hd), findB_left]
 intro d hd
 by_cases hk : belowB key es < es.length
 · have h2 := h.hi
   have h3 := h.hiS
   rw [hiR_lt hk] at hd h2 h3
   have e0 := h2 _ (List.mem_cons_self ..)
   have e1 : 0 < cmpB (es[belowB key es]).k key := by
    rcases Int.lt_trichotomy (cmpB (es[belowB key es]).k key) 0 with g | g | g
    · exact absurd g e0
    · exact absurd (cmpB_eq0 g) (hn hk)
    · exact g
   rcases List.mem_cons.1 hd with rfl | hd
   · exact ne_of_gt e1
   · have := (List.pairwise_cons.1 h3).1 d hd
     have h4 : cmpB key d.k < 0 := cmpB_trans (by rw [cmpB_swap]; omega) this
     exact fun e => by rw [e, cmpB_refl] at h4; omega
 · rw [hiR_end (by omega)] at hd
   cases hd
theorem leaf_find {key : List UInt8} {es : List It} (hs : es.Pairwise klt) (hn : ∀ hk : belowB key es < es.length, (es[belowB key es]).k ≠ key) : ∀ d ∈ es, d.k ≠ key := by
 obtain ⟨b1, b2, b3⟩ := below_take (key := key) hs
 intro d hd
 rw [← List.take_append_drop (belowB key es) es] at hd
 rcases List.mem_append.1 hd with hd | hd
 · exact ne_of_lt (b1 d hd)
 · by_cases hk : belowB key es < es.length
   · have hs2 := hs.drop (i := belowB key es)
     rw [List.drop_eq_getElem_cons hk] at hd b2 hs2
     have e0 := b2 _ (List.mem_cons_self ..)
     have e1 : 0 < cmpB (es[belowB key es]).k key := by
      rcases Int.lt_trichotomy (cmpB (es[belowB key es]).k key) 0 with g | g | g
      · exact absurd g e0
      · exact absurd (cmpB_eq0 g) (hn hk)
      · exact g
     rcases List.mem_cons.1 hd with rfl | hd
     · exact ne_of_gt e1
     · have := (List.pairwise_cons.1 hs2).1 d hd
       have h4 : cmpB key d.k < 0 := cmpB_trans (by rw [cmpB_swap]; omega) this
       exact fun e => by rw [e, cmpB_refl] at h4; omega
   · rw [List.drop_eq_nil_of_le (by omega)] at hd
     cases hd
theorem leaf_here {key : List UInt8} {es : List It} (hs : es.Pairwise klt) (hk : belowB key es < es.length) (he : (es[belowB key es]).k = key) : findB key es = some es[belowB key es] := by
 obtain ⟨b1, b2, b3⟩ := below_take (key := key) hs
 conv => lhs; rw [← List.take_append_drop (belowB key es) es]
 rw [findB_append fun d hd => ne_of_lt (b1 d hd), List.drop_eq_getElem_cons hk, findB_cons he]
theorem Ok.kids {t d : Nat} {x : Bt (d + 2)} (h : Ok t x) : (Bn.ks x).length = (Bn.es x).length + 1 := by
 have := h.2.1
 rwa [if_neg (by omega)] at this
theorem Ok.rows {t d : Nat} {x : Bt (d + 2)} (h : Ok t x) : ((Bn.ks x).map its).length = (Bn.es x).length + 1 := by
 rw [List.length_map]; exact h.kids
theorem getD_its {d : Nat} {ks : List (Bt d)} {k : Nat} (h : k < ks.length) : (ks.map its).getD k [] = its ks[k] := by
 rw [List.getD_eq_getElem?_getD, List.getElem?_map, List.getElem?_eq_getElem h]; rfl
theorem pow_le (t : Nat) (ht : 2 ≤ t) : ∀ {d : Nat} {x : Bt d}, Ok t x → 1 ≤ nk x → 2 ^ d ≤ (its x).length + 1
 | 0, x, _, _ => nomatch x
 | 1, x, _, h => by
  rw [its_leaf]
  have : 1 ≤ (Bn.es x).length := h
  simp only [Nat.pow_one]
  omega
 | d + 2, x, h, h1 => by
  have hk := Ok.kids h
  have h1 : 1 ≤ (Bn.es x).length := h1
  obtain ⟨e, es, he⟩ := List.exists_cons_of_length_pos (l := Bn.es x) (by omega)
  have hl2 : 2 ≤ (Bn.ks x).length := by omega
  obtain ⟨a, r, hr⟩ := List.exists_cons_of_length_pos (l := Bn.ks x) (by omega)
  obtain ⟨b, r2, hr2⟩ := List.exists_cons_of_length_pos (l := r) (by rw [hr] at hl2; simp at hl2; omega)
  subst hr2
  have ha := h.2.2 a (by rw [hr]; exact List.mem_cons_self ..)
  have hb := h.2.2 b (by rw [hr]; exact List.mem_cons_of_mem _ (List.mem_cons_self ..))
  have pa := pow_le t ht ha.1 (by omega)
  have pb := pow_le t ht hb.1 (by omega)
  have hi : its (d := d + 2) x = its a ++ e :: weave es (its b :: r2.map its) := by
   rw [its_mk, he, hr]; rfl
  have hw : (its b).length ≤ (weave es (its b :: r2.map its)).length := by
   cases es with
   | nil => simp [weave]
   | cons f es => simp [weave]
  rw [hi, List.length_append, List.length_cons, Nat.pow_succ]
  omega
end Bt
namespace Bt
theorem weave_length : ∀ (es : List It) (ks : List (List It)), ks = [] ∨ ks.length = es.length + 1 → (weave es ks).length = es.length + (ks.map List.length).sum
 | [], [], _ => rfl
 | [], [k], _ => by simp [weave]
 | [], _ :: _ :: _, h => by simp at h
 | e :: es, [], _ => by rw [weave_leaf]; simp
 | e :: es, k :: ks, h => by
  have h : ks.length = es.length + 1 := by simpa using h
  have := weave_length es ks (Or.inr h)
  simp only [weave, List.length_append, List.length_cons, this, List.map_cons, List.sum_cons]
  omega
def OkN (t : Nat) {d : Nat} (x : Bt (d + 1)) : Prop := (Bn.es x).length ≤ 2 * t ∧ ((Bn.ks x).length = if d = 0 then 0 else (Bn.es x).length + 1) ∧ ∀ k ∈ Bn.ks x, Ok t k ∧ t ≤ nk k + 1
theorem OkN.rows {t d : Nat} {x : Bt (d + 1)} (h : OkN t x) : ((Bn.ks x).map its = [] ∧ d = 0) ∨ (((Bn.ks x).map its).length = (Bn.es x).length + 1 ∧ d ≠ 0) := by
 by_cases hd : d = 0
 · subst hd
   exact Or.inl ⟨by rw [nil_of_zero (Bn.ks x)]; rfl, rfl⟩
 · have := h.2.1
   rw [if_neg hd] at this
   exact Or.inr ⟨by rw [List.length_map]; exact this, hd⟩
theorem its_length {t d : Nat} {x : Bt (d + 1)} (h : OkN t x) : (its x).length = (Bn.es x).length + ((Bn.ks x).map fun k => (its k).length).sum := by
 rw [its_mk, weave_length]
 · rw [List.map_map]; rfl
 · rcases h.rows with ⟨h0, _⟩ | ⟨h0, _⟩
   · exact Or.inl h0
   · exact Or.inr h0
theorem Ok.okN {t d : Nat} {x : Bt (d + 1)} (h : Ok t x) : OkN t x := ⟨by have := h.1; omega, h.2.1, h.2.2⟩
end Bt
end Go.Proofs.YtcibkdbpicledaaGreatDoor
namespace Go.Proofs.YtcibkdbpicledaaGreatDoor
open Go.RowKit Go.BigFrame Go.Maps Go.WideMaps Lf
structure Lf.BN where
 keys : List Nat
 vals : List Nat
 kids : List Nat
 size : Nat
def Lf.isDeg (t : Int) : Bool := decide (2 ≤ t) && decide (t ≤ 16)
def HRow (w : World) (v : Value) (l : List Nat) : Prop := ∃ A c, v = .slice A l.length c ∧ ∀ (i : Nat) (h : i < l.length), ∃ g o, A = some ⟨g, o, none⟩ ∧ w.cell? ⟨g, o + i, none⟩ = some (.int .u64 (l[i] : Nat))
theorem hcell_lt {w : World} {g o : Nat} {v : Value} (h : w.cell? ⟨g, o, none⟩ = some v) : g < w.heap.size := by
 unfold World.cell? at h
 split at h
 · rename_i heq; exact (gl heq)
 · cases h
theorem HRow.below {w w' : World} {v : Value} {l : List Nat} (h : HRow w v l) (hb : Below w.heap.size w w') : HRow w' v l := by
 obtain ⟨A, c, rfl, hc⟩ := h
 refine ⟨A, c, rfl, fun i hi => ?_⟩
 obtain ⟨g, o, rfl, h1⟩ := hc i hi
 exact ⟨g, o, rfl, (hb.cell (p := ⟨g, _, none⟩) (hcell_lt h1)).trans h1⟩
theorem HRow.nil (w : World) : HRow w (.slice none 0 0) [] := ⟨none, 0, rfl, fun i hi => absurd hi (by simp)⟩
theorem bnode_is (t : Int) (w : World) :
 Calls Tryz.prog 176 #[.int .i64 t] w fun e w' => e = .returned (.bool (isDeg t)) ∧ w = w' := by
 by_cases h1 : 2 ≤ t
 · by_cases h2 : t ≤ 16
   · have HQ := Lib.hid (show isDeg t = true by unfold isDeg; rw [decide_eq_true h1, decide_eq_true h2]; rfl)
     go_enter Tryz.func176, Tryz.ntmps176
     go_wp2_with fail
     go_ret
     exact ⟨by rw [HQ.out]; rfl, rfl⟩
   · have HQ := Lib.hid (show isDeg t = false by unfold isDeg; rw [decide_eq_false h2]; simp)
     go_enter Tryz.func176, Tryz.ntmps176
     go_wp2_with fail
     go_ret
     exact ⟨by rw [HQ.out]; rfl, rfl⟩
 · have HQ := Lib.hid (show isDeg t = false by unfold isDeg; rw [decide_eq_false h1]; rfl)
   go_enter Tryz.func176, Tryz.ntmps176
   go_wp2_with fail
   go_ret
   exact ⟨by rw [HQ.out]; rfl, rfl⟩
theorem handles_index {w : World} {v : Value} {l : List Nat} (h : HRow w v l) (hl : l.length ≤ 100000) :
 Calls Tryz.prog 260 #[v, .int .u64 0] w fun e w' => ∃ k : Int, e = .returned (.int .i64 k) ∧ (decide (0 ≤ k) = l.contains 0) ∧ w = w' := by
 obtain ⟨A, c, rfl, hc⟩ := h
 obtain ⟨n, hn⟩ : ∃ n, l.length = n := ⟨_, rfl⟩
 rw [hn] at hl
 have H := kq2 hc hn
 rw [hn]
 clear hc hn
 go_enter Tryz.func260, Tryz.ntmps260
 go_wp2_with fail
 go_loopw [5, 8] (fun _ i wr => ∃ k : Nat, k ≤ n ∧ i = .int .i64 k ∧ wr = w ∧ ∀ (j : Nat) (hj : j < l.length), j < k → l[j] ≠ 0) (fun _ i _ => n - (intOf i).toNat)
 case atStart => exact ⟨0, by omega, rfl, rfl, fun j _ hj => absurd hj (by omega)⟩
 case round =>
  obtain ⟨k, hk, rfl, rfl, hne⟩ := hrel
  by_cases hlt : k < n
  · have hlt' : (k : Int) < n := by omega
    have hk' : k < l.length := by rw [H.out.2]; exact hlt
    obtain ⟨g, o, rfl, c1⟩ := H.out.1 k hk'
    by_cases h0 : l[k] = 0
    · have hc0 : l.contains 0 = true := by rw [List.contains_iff_mem, ← h0]; exact List.getElem_mem hk'
      rw [h0] at c1
      have HK := Lib.hid hc0
      clear hne hc0 h0
      go_wp2_with fail
      go_ret
      exact ⟨k, rfl, by rw [HK.out]; simp, rfl⟩
    · have hn0 : ((l[k] : Nat) : Int) ≠ 0 := by omega
      have hstep : ∀ (j : Nat) (hj : j < l.length), j < k + 1 → l[j] ≠ 0 := fun j hj h1 => by
       rcases Nat.lt_or_ge j k with h2 | h2
       · exact hne j hj h2
       · obtain rfl : j = k := by omega
         exact h0
      have HK := Lib.hid hstep
      clear hne hstep h0
      generalize l[k] = x at *
      have hx0 : ¬ x = 0 := by omega
      have hx1 : ¬ 0 = x := by omega
      have hx2 : ((0 : Int) == (x : Int)) = false := by simp; omega
      clear hn0
      go_wp2_with fail
      exact ⟨⟨k + 1, by omega, by simp, trivial, HK.out⟩, by simp [intOf]; omega⟩
  · obtain rfl : k = n := by omega
    have hc0 : l.contains 0 = false := by
     rw [Bool.eq_false_iff]
     intro h
     rw [List.contains_iff_mem] at h
     obtain ⟨j, hj, e⟩ := List.mem_iff_getElem.1 h
     exact hne j hj (by rw [← H.out.2]; exact hj) e
    have HK := Lib.hid hc0
    clear hne hc0
    go_wp2_with fail
    go_ret
    exact ⟨-1, rfl, by rw [HK.out]; simp, rfl⟩
theorem handles_contains {w : World} {v : Value} {l : List Nat} (h : HRow w v l) (hl : l.length ≤ 100000) :
 Calls Tryz.prog 244 #[v, .int .u64 0] w fun e w' => e = .returned (.bool (l.contains 0)) ∧ w = w' := by
 have HG := Lib.hid (handles_index h hl)
 clear h hl
 go_enter Tryz.func244, Tryz.ntmps244
 go_wp2_with fail
 refine HG.out.mono ?_
 rintro e w1 ⟨k, rfl, hk, rfl⟩
 have HK := Lib.hid hk
 clear hk
 go_wp2_with fail
 go_ret
 exact ⟨by rw [← HK.out]; rfl, rfl⟩
def bnV (vk vv vc : Value) (s : Nat) : Value := .agg #[vk, vv, vc, .int .u64 s]
structure BnOk (t : Nat) (n : BN) : Prop where
 lo : 2 ≤ t
 hi : t ≤ 16
 many : n.keys.length ≤ 2 * t - 1
 vals : n.vals.length = n.keys.length
 kids : n.kids.length = 0 ∨ (n.kids.length = n.keys.length + 1 ∧ n.kids.contains 0 = false)
theorem isDeg_true {t : Nat} (h1 : 2 ≤ t) (h2 : t ≤ 16) : isDeg (t : Int) = true := by unfold isDeg; rw [decide_eq_true (by omega), decide_eq_true (by omega)]; rfl
theorem bnode_words (t : Nat) (h1 : 2 ≤ t) (h2 : t ≤ 16) (w : World) :
 Calls Tryz.prog 155 #[.int .i64 t] w fun e w' => e = .returned (.int .i64 (6 * (t : Int))) ∧ w = w' := by
 have HG := Lib.hid (isDeg_true h1 h2 ▸ bnode_is (t : Int) w)
 go_enter Tryz.func155, Tryz.ntmps155
 go_wp2_with fail
 refine HG.out.mono ?_
 rintro e w1 ⟨rfl, rfl⟩
 go_wp2_with fail
 go_ret
 exact ⟨rfl, rfl⟩
theorem bnode_fits {w : World} {t : Nat} {n : BN} {vk vv vc : Value} (hn : BnOk t n) (hk : HRow w vk n.keys) (hv : HRow w vv n.vals) (hc : HRow w vc n.kids) :
 Calls Tryz.prog 215 #[.int .i64 t, bnV vk vv vc n.size] w fun e w' => e = .returned (.bool true) ∧ Below w.heap.size w w' := by
 obtain ⟨h1, h2, h3, h4, h5⟩ := hn
 unfold bnV
 have hcc := fun W (hW : Below w.heap.size w W) => handles_contains (hc.below hW) (by omega)
 have his := fun W => isDeg_true h1 h2 ▸ bnode_is (t : Int) W
 obtain ⟨Ak, ck, rfl, -⟩ := hk
 obtain ⟨Av, cv, rfl, -⟩ := hv
 obtain ⟨Ac, cc, rfl, -⟩ := hc
 rw [h4]
 obtain ⟨k, hkl⟩ : ∃ k, n.keys.length = k := ⟨_, rfl⟩
 rw [hkl] at h3 h5 ⊢
 generalize n.size = sz at *
 have h3' : (k : Int) ≤ 2 * (t : Int) - 1 := by omega
 have h3q : decide ((k : Int) ≤ 2 * (t : Int) - 1) = true := decide_eq_true h3'
 rcases h5 with h5 | ⟨h5, h6⟩
 · rw [h5] at hcc ⊢
   have B0 := (Below.refl w.heap.size w).alloc (Nat.le_refl _) (.cells #[.slice Ak k ck, .slice Av k cv, .slice Ac 0 cc, .int .u64 sz] 286)
   have q0 := heap_alloc_new w (.cells #[.slice Ak k ck, .slice Av k cv, .slice Ac 0 cc, .int .u64 sz] 286)
   obtain ⟨c0, c1, c2, c3⟩ := cells4 q0
   have HG := kq2 his B0
   clear his B0 hcc q0 hkl h4 h5
   go_enter Tryz.func215, Tryz.ntmps215
   go_wp2_with fail
   refine (HG.out.1 _).mono ?_
   rintro e w1 ⟨rfl, rfl⟩
   go_wp2_with fail
   go_ret
   exact ⟨rfl, HG.out.2⟩
 · rw [h6] at hcc
   rw [h5] at hcc ⊢
   have hq : (((k + 1 : Nat) : Int) == 0) = false := by simp; omega
   have hq2 : ((k + 1 : Nat) : Int) = (k : Int) + 1 := by omega
   have hq3 : ¬ ((k : Int) + 1 = 0) := by omega
   have B0 := (Below.refl w.heap.size w).alloc (Nat.le_refl _) (.cells #[.slice Ak k ck, .slice Av k cv, .slice Ac (k + 1) cc, .int .u64 sz] 286)
   have q0 := heap_alloc_new w (.cells #[.slice Ak k ck, .slice Av k cv, .slice Ac (k + 1) cc, .int .u64 sz] 286)
   obtain ⟨c0, c1, c2, c3⟩ := cells4 q0
   have HG := kq3 his B0 hcc
   clear his B0 hcc q0 hkl h4 h5 h6
   go_enter Tryz.func215, Tryz.ntmps215
   go_wp2_with fail
   refine (HG.out.2.2 _ HG.out.2.1).mono ?_
   rintro e w1 ⟨rfl, rfl⟩
   go_wp2_with fail
   refine (HG.out.1 _).mono ?_
   rintro e w2 ⟨rfl, rfl⟩
   go_wp2_with fail
   go_ret
   exact ⟨rfl, HG.out.2.1⟩
def Lf.wAt (t : Nat) (n : BN) (a b j : Nat) : Nat :=
 if j = 0 then n.keys.length else if j = 1 then n.size
 else if j < 2 + 2 * a then (if j % 2 = 0 then n.keys.getD ((j - 2) / 2) 0 else n.vals.getD ((j - 2) / 2) 0)
 else if 4 * t ≤ j ∧ j < 4 * t + b then n.kids.getD (j - 4 * t) 0 else 0
def Lf.bnWords (t : Nat) (n : BN) : List Nat := (List.range (6 * t)).map (wAt t n n.keys.length n.kids.length)
theorem bnWords_length (t : Nat) (n : BN) : (bnWords t n).length = 6 * t := by simp [bnWords]
def rowV (N : Nat) (f : Nat → Nat) : Array Value := ((List.range N).map fun j => Value.int .u64 (f j)).toArray
theorem rowV_get {N j : Nat} (f : Nat → Nat) (h : j < N) : (rowV N f)[j]? = some (.int .u64 (f j)) := by
 unfold rowV
 rw [List.getElem?_toArray, List.getElem?_map, List.getElem?_range h]
 rfl
theorem rowV_set {N i : Nat} (f : Nat → Nat) (v : Nat) : (rowV N f).setIfInBounds i (.int .u64 v) = rowV N (fun j => if j = i then v else f j) := by
 unfold rowV
 refine Array.ext_getElem? fun j => ?_
 rw [List.setIfInBounds_toArray, List.getElem?_toArray, List.getElem?_toArray]
 by_cases hj : j < N
 · by_cases e : i = j
   · subst e
     rw [List.getElem?_set_self (by simpa using hj), List.getElem?_map, List.getElem?_range hj]
     simp
   · rw [List.getElem?_set_ne e, List.getElem?_map, List.getElem?_map, List.getElem?_range hj]
     simp [show ¬ j = i from fun q => e q.symm]
 · rw [List.getElem?_eq_none (by simp; omega), List.getElem?_eq_none (by simp; omega)]
theorem rowV_congr {N : Nat} {f g : Nat → Nat} (h : ∀ j, j < N → f j = g j) : rowV N f = rowV N g := by
 unfold rowV
 congr 1
 refine List.map_congr_left fun j hj => ?_
 rw [h j (List.mem_range.1 hj)]
theorem rowV_zero (N : Nat) : ((List.replicate N 0).map fun x : Nat => Value.int .u64 x).toArray = rowV N fun _ => 0 := by
 unfold rowV
 congr 1
 refine List.ext_getElem? fun j => ?_
 by_cases hj : j < N
 · rw [List.getElem?_map, List.getElem?_map, List.getElem?_range hj, List.getElem?_replicate, if_pos hj]; rfl
 · rw [List.getElem?_eq_none (by simp; omega), List.getElem?_eq_none (by simp; omega)]
theorem all_any (A : Option Addr) (n c : Nat) (w : World) :
 Calls Tryz.prog 245 #[.slice A n c] w fun e w' => e = .returned (.func (.func 261) #[] #[PV w.heap.size]) ∧ w' = w.alloc (.cells #[.slice A n c] 162) := by
 go_enter Tryz.func245, Tryz.ntmps245
 go_wp2
 go_ret
 exact ⟨rfl, rfl⟩
structure WsAt (t : Nat) (n : BN) (a b : Nat) (w W : World) (vk vv vc : Value) : Prop where
 row : W.heap[w.heap.size + 1]? = some (.cells (rowV (6 * t) (wAt t n a b)) 82 (0, 0))
 box : W.heap[w.heap.size]? = some (.cells #[vk, vv, vc, .int .u64 n.size] 286 (0, 0))
 below : Below w.heap.size w W
theorem WsAt.two {t : Nat} {n : BN} {a b i j x y : Nat} {w W W' : World} {vk vv vc : Value} (h : WsAt t n a b w W vk vv vc) (a' b' : Nat) (hW : W'.heap = ((W.setCell ⟨w.heap.size + 1, i, none⟩ (.int .u64 x)).setCell ⟨w.heap.size + 1, j, none⟩ (.int .u64 y)).heap) (ho : W'.os = W.os) (ht : W'.tape = W.tape) (hu : W'.output = W.output)
 (hr : ∀ q, q < 6 * t → wAt t n a' b' q = if q = j then y else if q = i then x else wAt t n a b q) : WsAt t n a' b' w W' vk vv vc := by
 have hB := (h.below.setCell (p := ⟨w.heap.size + 1, i, none⟩) (Nat.le_succ _) (.int .u64 x)).setCell (p := ⟨w.heap.size + 1, j, none⟩) (Nat.le_succ _) (.int .u64 y)
 refine ⟨?_, ?_, ⟨ho.trans h.below.os, ht.trans h.below.tape, hu.trans h.below.output, by rw [hW]; exact hB.size, fun k hk => by rw [hW]; exact hB.block k hk⟩⟩
 · rw [hW, heap_setCell (heap_setCell h.row), rowV_set, rowV_set, rowV_congr hr]
 · rw [hW, heap_setCell_ne (by omega), heap_setCell_ne (by omega)]; exact h.box
theorem WsAt.one {t : Nat} {n : BN} {a b i x : Nat} {w W W' : World} {vk vv vc : Value} (h : WsAt t n a b w W vk vv vc) (a' b' : Nat) (hW : W'.heap = (W.setCell ⟨w.heap.size + 1, i, none⟩ (.int .u64 x)).heap) (ho : W'.os = W.os) (ht : W'.tape = W.tape) (hu : W'.output = W.output)
 (hr : ∀ q, q < 6 * t → wAt t n a' b' q = if q = i then x else wAt t n a b q) : WsAt t n a' b' w W' vk vv vc := by
 have hB := h.below.setCell (p := ⟨w.heap.size + 1, i, none⟩) (Nat.le_succ _) (.int .u64 x)
 refine ⟨?_, ?_, ⟨ho.trans h.below.os, ht.trans h.below.tape, hu.trans h.below.output, by rw [hW]; exact hB.size, fun k hk => by rw [hW]; exact hB.block k hk⟩⟩
 · rw [hW, heap_setCell h.row, rowV_set, rowV_congr hr]
 · rw [hW, heap_setCell_ne (by omega)]; exact h.box
theorem bnode_row {w : World} {t : Nat} {n : BN} {vk vv vc : Value} (hn : BnOk t n) (hk : HRow w vk n.keys) (hv : HRow w vv n.vals) (hc : HRow w vc n.kids) :
 Calls Tryz.prog 216 #[.int .i64 t, bnV vk vv vc n.size] w fun e w' => ∃ B, e = .returned (.func (.func 261) #[] #[PV B]) ∧ w.heap.size ≤ B ∧ w'.heap[B]? = some (.cells #[.slice (some ⟨w.heap.size + 1, 0, none⟩) (6 * t) (6 * t)] 162 (0, 0)) ∧
  w'.heap[w.heap.size + 1]? = some (.cells (rowV (6 * t) (wAt t n n.keys.length n.kids.length)) 82 (0, 0)) ∧ Below w.heap.size w w' := by
 obtain ⟨h1, h2, h3, h4, h5⟩ := hn
 unfold bnV
 have hmk := make_words (6 * t) (by omega)
 rw [rowV_zero] at hmk
 obtain ⟨Ak, ck, rfl, hk⟩ := hk
 obtain ⟨Av, cv, rfl, hv⟩ := hv
 obtain ⟨Ac, cc, rfl, hc⟩ := hc
 obtain ⟨k, hkl⟩ : ∃ k, n.keys.length = k := ⟨_, rfl⟩
 obtain ⟨c, hcl⟩ : ∃ c, n.kids.length = c := ⟨_, rfl⟩
 rw [hkl] at h3 h4 h5
 rw [hcl] at h5
 have hcb : c ≤ 2 * t := by rcases h5 with g | ⟨g, _⟩ <;> omega
 have HB := kq6 hkl h4 hcl hk hv hc
 rw [h4, hkl, hcl]
 clear hk hv hc hkl h4 hcl h5
 generalize hsz : n.size = sz
 have HS := Lib.hid hsz
 clear hsz
 have q0 := heap_alloc_new w (.cells #[.slice Ak k ck, .slice Av k cv, .slice Ac c cc, .int .u64 sz] 286)
 have B0 := (Below.refl w.heap.size w).alloc (Nat.le_refl _) (.cells #[.slice Ak k ck, .slice Av k cv, .slice Ac c cc, .int .u64 sz] 286)
 have z0 : (w.alloc (.cells #[.slice Ak k ck, .slice Av k cv, .slice Ac c cc, .int .u64 sz] 286)).heap.size = w.heap.size + 1 := by simp
 have q1 := heap_alloc_new (w.alloc (.cells #[.slice Ak k ck, .slice Av k cv, .slice Ac c cc, .int .u64 sz] 286)) (.cells (rowV (6 * t) fun _ => 0) 82)
 have B1 := B0.alloc B0.size (.cells (rowV (6 * t) fun _ => 0) 82)
 have q0' := (((Below.refl (w.alloc (.cells #[.slice Ak k ck, .slice Av k cv, .slice Ac c cc, .int .u64 sz] 286)).heap.size (w.alloc (.cells #[.slice Ak k ck, .slice Av k cv, .slice Ac c cc, .int .u64 sz] 286))).alloc (Nat.le_refl _) (.cells (rowV (6 * t) fun _ => 0) 82)).block w.heap.size (by omega)).trans q0
 rw [z0] at q1
 have hmk1 := hmk (w.alloc (.cells #[.slice Ak k ck, .slice Av k cv, .slice Ac c cc, .int .u64 sz] 286))
 rw [z0] at hmk1
 have hm6 : IntKind.i64.wrap (6 * (t : Int)) = 6 * (t : Int) := IntWalk.i64_in _ (by omega)
 have hcast : ((6 * t : Nat) : Int) = 6 * (t : Int) := by omega
 rw [hcast] at hmk1
 have hq0 : (0 : Int) < 6 * (t : Int) := by omega
 have hq1 : (1 : Int) < 6 * (t : Int) := by omega
 clear hmk q0 B0
 go_enter Tryz.func216, Tryz.ntmps216
 go_wp2_with fail
 clear hmk1
 generalize hW1 : (w.alloc (.cells #[.slice Ak k ck, .slice Av k cv, .slice Ac c cc, .int .u64 sz] 286)).alloc (.cells (rowV (6 * t) fun _ => 0) 82) = W1 at *
 obtain ⟨c0, c1, c2, c3⟩ := cells4 q0'
 have r0 : W1.cell? ⟨w.heap.size + 1, 0, none⟩ = some (.int .u64 0) := by rw [cell_of_block q1, rowV_get _ (by omega)]; rfl
 have r1 : W1.cell? ⟨w.heap.size + 1, 1, none⟩ = some (.int .u64 0) := by rw [cell_of_block q1, rowV_get _ (by omega)]; rfl
 have f0 : W1.frozen? ⟨w.heap.size + 1, 0, none⟩ = false := frozen_of_block q1
 have f1 : W1.frozen? ⟨w.heap.size + 1, 1, none⟩ = false := frozen_of_block q1
 have hne : ¬ (w.heap.size = w.heap.size + 1) := by omega
 go_region
 go_wp2_with fail
 go_name_world W HW
 have hW : WsAt t n 0 0 w W (.slice Ak k ck) (.slice Av k cv) (.slice Ac c cc) := by
  refine ⟨?_, ?_, ?_⟩
  · rw [← HW]
    show ((W1.setCell ⟨w.heap.size + 1, 0, none⟩ (.int .u64 k)).setCell ⟨w.heap.size + 1, 1, none⟩ (.int .u64 sz)).heap[w.heap.size + 1]? = _
    rw [heap_setCell (heap_setCell q1), rowV_set, rowV_set]
    congr 2
    refine rowV_congr fun q hq => ?_
    unfold wAt
    rw [HB.out.1, HS.out]
    by_cases e1 : q = 1
    · rw [if_pos e1, if_neg (by omega), if_pos e1]
    · rw [if_neg e1]
      by_cases e0 : q = 0
      · rw [if_pos e0, if_pos e0]
      · rw [if_neg e0, if_neg e0, if_neg e1, if_neg (by omega), if_neg (by omega)]
  · rw [← HW]
    show ((W1.setCell ⟨w.heap.size + 1, 0, none⟩ (.int .u64 k)).setCell ⟨w.heap.size + 1, 1, none⟩ (.int .u64 sz)).heap[w.heap.size]? = _
    rw [heap_setCell_ne (by omega), heap_setCell_ne (by omega), HS.out]; exact q0'
  · rw [← HW]
    have h := (B1.setCell (p := ⟨w.heap.size + 1, 0, none⟩) (Nat.le_succ _) (.int .u64 k)).setCell (p := ⟨w.heap.size + 1, 1, none⟩) (Nat.le_succ _) (.int .u64 sz)
    exact ⟨h.os, h.tape, h.output, h.size, h.block⟩
 clear HW
 have HA := Lib.hid hW
 clear hW r0 r1 f0 f1 hne c0 c1 c2 c3 q0' q1 hW1 B1
 go_loopw [6, 25] (fun _ i wr => ∃ j : Nat, j ≤ k ∧ i = .int .i64 j ∧ WsAt t n j 0 w wr (.slice Ak k ck) (.slice Av k cv) (.slice Ac c cc)) (fun _ i _ => k - (intOf i).toNat)
 case atStart => exact ⟨0, by omega, rfl, HA.out⟩
 case round =>
  obtain ⟨j, hj, rfl, hA⟩ := hrel
  by_cases hlt : j < k
  · have hlt' : (j : Int) < k := by omega
    have hbox := hA.box
    rw [HS.out] at hbox
    obtain ⟨c0, c1, c2, c3⟩ := cells4 hbox
    have ik : j < n.keys.length := by rw [HB.out.1]; exact hlt
    have iv : j < n.vals.length := by rw [HB.out.2.1]; exact hlt
    obtain ⟨gk, ok, rfl, hck⟩ := HB.out.2.2.2.1 j ik
    obtain ⟨gv, ov, rfl, hcv⟩ := HB.out.2.2.2.2.1 j iv
    have lk := hcell_lt hck
    have lv := hcell_lt hcv
    have dk := (hA.below.cell (p := ⟨gk, ok + j, none⟩) lk).trans hck
    have dv := (hA.below.cell (p := ⟨gv, ov + j, none⟩) lv).trans hcv
    obtain ⟨xk, hxk⟩ : ∃ x, n.keys[j] = x := ⟨_, rfl⟩
    obtain ⟨xv, hxv⟩ : ∃ x, n.vals[j] = x := ⟨_, rfl⟩
    rw [hxk] at dk
    rw [hxv] at dv
    have hgk : n.keys.getD j 0 = xk := by rw [List.getD_eq_getElem?_getD, List.getElem?_eq_getElem ik, ← hxk]; rfl
    have hgv : n.vals.getD j 0 = xv := by rw [List.getD_eq_getElem?_getD, List.getElem?_eq_getElem iv, ← hxv]; rfl
    have z2 : ∀ q, 2 + 2 * j ≤ q → q < 4 * t → wAt t n j 0 q = 0 := fun q h1 h2 => by
     unfold wAt
     rw [if_neg (by omega), if_neg (by omega), if_neg (by omega), if_neg (by omega)]
    have r0 : wr.cell? ⟨w.heap.size + 1, 2 + 2 * j, none⟩ = some (.int .u64 0) := by
     rw [cell_of_block hA.row, rowV_get _ (by omega), z2 _ (by omega) (by omega)]; rfl
    have r1 : wr.cell? ⟨w.heap.size + 1, 2 + 2 * j + 1, none⟩ = some (.int .u64 0) := by
     rw [cell_of_block hA.row, rowV_get _ (by omega), z2 _ (by omega) (by omega)]; rfl
    have f0 : wr.frozen? ⟨w.heap.size + 1, 2 + 2 * j, none⟩ = false := frozen_of_block hA.row
    have f1 : wr.frozen? ⟨w.heap.size + 1, 2 + 2 * j + 1, none⟩ = false := frozen_of_block hA.row
    have n1 : ¬ (w.heap.size = w.heap.size + 1) := by omega
    have n2 : ¬ (gk = w.heap.size + 1) := by omega
    have n3 : ¬ (gv = w.heap.size + 1) := by omega
    have hb1 : 2 + 2 * (j : Int) < 6 * (t : Int) := by omega
    have hb2 : 2 + 2 * (j : Int) + 1 < 6 * (t : Int) := by omega
    have HK := kq4 hA hgk hgv hlt
    clear hA hbox hck hcv z2 hxk hxv hgk hgv lk lv
    go_wp2_with fail
    go_region
    have HN := fun W' h1 h2 h3 h4 => HK.out.1.two (i := 2 + 2 * j) (j := 2 + 2 * j + 1) (x := xk) (y := xv) (W' := W') (j + 1) 0 h1 h2 h3 h4 (fun q hq => by
     unfold wAt
     by_cases e1 : q = 2 + 2 * j + 1
     · rw [if_pos e1, if_neg (by omega), if_neg (by omega), if_pos (by omega), if_neg (by omega), show (q - 2) / 2 = j by omega]; exact HK.out.2.2.1
     · rw [if_neg e1]
       by_cases e0 : q = 2 + 2 * j
       · rw [if_pos e0, if_neg (by omega), if_neg (by omega), if_pos (by omega), if_pos (by omega), show (q - 2) / 2 = j by omega]; exact HK.out.2.1
       · rw [if_neg e0]
         by_cases g0 : q = 0
         · rw [if_pos g0, if_pos g0]
         · rw [if_neg g0, if_neg g0]
           by_cases g1 : q = 1
           · rw [if_pos g1, if_pos g1]
           · rw [if_neg g1, if_neg g1]
             by_cases g2 : q < 2 + 2 * j
             · rw [if_pos (by omega), if_pos g2]
             · rw [if_neg (by omega), if_neg g2])
    have HN' := Lib.hid HN
    clear HN r0 r1 f0 f1 n1 n2 n3 c0 c1 c2 c3 dk dv
    go_wp2_with fail
    go_roundw
    case rel => exact ⟨j + 1, HK.out.2.2.2, by simp, HN'.out _ rfl rfl rfl rfl⟩
    case measure => have := HK.out.2.2.2; simp [intOf]; omega
  · obtain rfl : j = k := by omega
    have hbox := hA.box
    rw [HS.out] at hbox
    obtain ⟨c0, c1, c2, c3⟩ := cells4 hbox
    have HK := Lib.hid hA
    clear hA hbox
    go_wp2_with fail
    clear c0 c1 c2 c3
    go_loopw [7, 8, 53] (fun _ _ i wr => ∃ q : Nat, q ≤ c ∧ i = .int .i64 q ∧ WsAt t n j q w wr (.slice Ak j ck) (.slice Av j cv) (.slice Ac c cc)) (fun _ _ i _ => c - (intOf i).toNat)
    case atStart => exact ⟨0, by omega, rfl, HK.out⟩
    case round =>
     obtain ⟨q, hq, rfl, hA⟩ := hrel
     by_cases hlt : q < c
     · have hlt' : (q : Int) < c := by omega
       have ik : q < n.kids.length := by rw [HB.out.2.2.1]; exact hlt
       obtain ⟨gk, ok, rfl, hck⟩ := HB.out.2.2.2.2.2 q ik
       have lk := hcell_lt hck
       have dk := (hA.below.cell (p := ⟨gk, ok + q, none⟩) lk).trans hck
       obtain ⟨xk, hxk⟩ : ∃ x, n.kids[q] = x := ⟨_, rfl⟩
       rw [hxk] at dk
       have hgk : n.kids.getD q 0 = xk := by rw [List.getD_eq_getElem?_getD, List.getElem?_eq_getElem ik, ← hxk]; rfl
       have r0 : wr.cell? ⟨w.heap.size + 1, 4 * t + q, none⟩ = some (.int .u64 0) := by
        rw [cell_of_block hA.row, rowV_get _ (by omega)]
        unfold wAt
        rw [if_neg (by omega), if_neg (by omega), if_neg (by omega), if_neg (by omega)]; rfl
       have f0 : wr.frozen? ⟨w.heap.size + 1, 4 * t + q, none⟩ = false := frozen_of_block hA.row
       have hb1 : 4 * (t : Int) + q < 6 * (t : Int) := by omega
       have HK2 := kq3 hA hgk hlt
       clear hA hck hxk hgk lk
       go_wp2_with fail
       have HN := fun W' h1 h2 h3 h4 => HK2.out.1.one (i := 4 * t + q) (x := xk) (W' := W') j (q + 1) h1 h2 h3 h4 (fun p hp => by
        unfold wAt
        by_cases e1 : p = 4 * t + q
        · rw [if_pos e1, if_neg (by omega), if_neg (by omega), if_neg (by omega), if_pos (by omega), show p - 4 * t = q by omega]; exact HK2.out.2.1
        · rw [if_neg e1]
          by_cases g0 : p = 0
          · rw [if_pos g0, if_pos g0]
          · rw [if_neg g0, if_neg g0]
            by_cases g1 : p = 1
            · rw [if_pos g1, if_pos g1]
            · rw [if_neg g1, if_neg g1]
              by_cases g2 : p < 2 + 2 * j
              · rw [if_pos g2, if_pos g2]
              · rw [if_neg g2, if_neg g2]
                by_cases g3 : 4 * t ≤ p ∧ p < 4 * t + q
                · rw [if_pos (by omega), if_pos g3]
                · rw [if_neg (by omega), if_neg g3])
       have HN' := Lib.hid HN
       clear HN r0 f0 dk
       go_roundw
       case rel => exact ⟨q + 1, HK2.out.2.2, by simp, HN'.out _ rfl rfl rfl rfl⟩
       case measure => have := HK2.out.2.2; simp [intOf]; omega
     · obtain rfl : q = c := by omega
       have HK2 := Lib.hid hA
       clear hA
       go_wp2_with fail
       refine (all_any _ _ _ wr).mono ?_
       rintro e w2 ⟨rfl, rfl⟩
       go_wp2_with fail
       go_ret
       have hA := HK2.out
       have hB := (Below.refl wr.heap.size wr).alloc (Nat.le_refl _) (.cells #[.slice (some ⟨w.heap.size + 1, 0, none⟩) (6 * t) (6 * t)] 162)
       refine ⟨_, rfl, hA.below.size, heap_alloc_new _ _, ?_, hA.below.trans (hB.mono hA.below.size)⟩
       exact (hB.block _ (gl hA.row)).trans hA.row
