/- Binary trees with their blobs in a store: how many, ways down, places: plain. B-trees as rows of items and trees; the ways down, by order: plain. B-trees: an item more: rows and trees; plain. -/
import Derived.Test.YtepdkbmnkjfcpaaGreatDoorVau
import Derived.Test.YtepdkbmnkjfcpaaGreatDoorVam
set_option maxRecDepth 100000
namespace Go.Proofs.YtepdkbmnkjfcpaaGreatDoor
open Lf
namespace Tr
def allH (l : List It) : List Nat := l.flatMap fun d => [d.h, d.kh, d.vh]
def pairs (l : List It) : List (List UInt8 × List UInt8) := l.map fun d => (d.k, d.v)
structure Bin (Ok : Tr → Prop) (S : St) (o : Nat → Nat) (t : Tr) : Prop where
  fit : Fit S o
  at' : At S t
  ok : Ok t
  nd : (allH t.its).Nodup
  blobs : ∀ d ∈ t.its, Blobs S d
  sorted : t.its.Pairwise klt
theorem allH_cons (d : It) (b : List It) : allH (d :: b) = d.h :: d.kh :: d.vh :: allH b := rfl
theorem mem_allH {l : List It} {y : Nat} : y ∈ allH l ↔ ∃ d ∈ l, y = d.h ∨ y = d.kh ∨ y = d.vh := by
  unfold allH
  rw [List.mem_flatMap]
  simp
theorem allH_hs : ∀ {l : List It}, (allH l).Nodup → (l.map (·.h)).Nodup ∧ ∀ d ∈ l, d.kh ∉ l.map (·.h) ∧ d.vh ∉ l.map (·.h)
  | [], _ => ⟨List.nodup_nil, fun _ hd => by cases hd⟩
  | d :: l, h => by
    rw [allH_cons] at h
    obtain ⟨h1, h2⟩ := List.nodup_cons.1 h
    obtain ⟨h3, h4⟩ := List.nodup_cons.1 h2
    obtain ⟨h5, h6⟩ := List.nodup_cons.1 h4
    obtain ⟨g1, g2⟩ := allH_hs h6
    simp only [List.mem_cons, not_or] at h1 h3
    have hin : ∀ x ∈ l, x.h ∈ allH l ∧ x.kh ∈ allH l ∧ x.vh ∈ allH l := fun x hx => ⟨mem_allH.2 ⟨x, hx, Or.inl rfl⟩, mem_allH.2 ⟨x, hx, Or.inr (Or.inl rfl)⟩, mem_allH.2 ⟨x, hx, Or.inr (Or.inr rfl)⟩⟩
    have hm : ∀ y, y ∉ allH l → y ∉ l.map (·.h) := fun y hy hm => by
      obtain ⟨x, hx, rfl⟩ := List.mem_map.1 hm
      exact hy (hin x hx).1
    refine ⟨List.nodup_cons.2 ⟨hm _ h1.2.2, g1⟩, fun x hx => ?_⟩
    rw [List.map_cons]
    simp only [List.mem_cons, not_or]
    rcases List.mem_cons.1 hx with rfl | hx
    · exact ⟨⟨fun e => h1.1 e.symm, hm _ h3.2⟩, fun e => h1.2.1 e.symm, hm _ h5⟩
    · exact ⟨⟨fun e => h1.2.2 (e ▸ (hin x hx).2.1), (g2 x hx).1⟩, fun e => h1.2.2 (e ▸ (hin x hx).2.2), (g2 x hx).2⟩
theorem Bin.hs {Ok : Tr → Prop} {S : St} {o : Nat → Nat} {t : Tr} (h : Bin Ok S o t) : t.hs.Nodup ∧ ∀ d ∈ t.its, d.kh ∉ t.hs ∧ d.vh ∉ t.hs := allH_hs h.nd
theorem nodup_le {l m : List Nat} (h : l.Nodup) (hs : ∀ y ∈ l, y ∈ m) : l.length ≤ m.length := by
  induction l generalizing m with
  | nil => exact Nat.zero_le _
  | cons x r ih =>
    obtain ⟨h1, h2⟩ := List.nodup_cons.1 h
    have hx := hs x (List.mem_cons_self ..)
    have := ih h2 (m := m.erase x) fun y hy => by
      have hy2 := hs y (List.mem_cons_of_mem _ hy)
      have hne : y ≠ x := fun e => h1 (e ▸ hy)
      exact (List.mem_erase_of_ne hne).2 hy2
    rw [List.length_erase_of_mem hx] at this
    have : 0 < m.length := List.length_pos_of_mem hx
    simp only [List.length_cons]
    omega
theorem nodup_map_inj {f : Nat → Nat} : ∀ {l : List Nat}, (∀ x ∈ l, ∀ y ∈ l, f x = f y → x = y) → l.Nodup → (l.map f).Nodup
  | [], _, _ => List.nodup_nil
  | x :: l, h, hn => by
    obtain ⟨h1, h2⟩ := List.nodup_cons.1 hn
    rw [List.map_cons]
    refine List.nodup_cons.2 ⟨fun hm => ?_, nodup_map_inj (fun a ha b hb => h a (List.mem_cons_of_mem _ ha) b (List.mem_cons_of_mem _ hb)) h2⟩
    obtain ⟨y, hy, e⟩ := List.mem_map.1 hm
    have := h y (List.mem_cons_of_mem _ hy) x (List.mem_cons_self ..) e
    exact h1 (this ▸ hy)
theorem sum_eights (n : Nat) : (List.replicate n 8).sum = n * 8 := by
  induction n with
  | zero => rfl
  | succ n ih => rw [List.replicate_succ, List.sum_cons, ih]; omega
theorem eighth {S : St} {o : Nat → Nat} (hf : Fit S o) {h : Nat} {ws : List Nat} (hl : reco S h = some ws) (hw : 6 ≤ ws.length) : ∃ a r, Place S.a o a r ∧ 8 ≤ r ∧ ∃ (k : Nat) (x : Slot), S.t.slots[k]? = some x ∧ x.is = 1 ∧ h = nameOf x.gen k ∧ x.addr = a := by
  obtain ⟨k, x, hx, h1, h2, rfl⟩ := (look_iff hf.tab).1 hl
  obtain ⟨r, g1, g2, g3⟩ := hf.live k x hx h1
  rw [wordsAt_length] at hw
  exact ⟨x.addr, r, g1, by omega, k, x, hx, h1, h2, rfl⟩
theorem recs_le {S : St} {o : Nat → Nat} (hf : Fit S o) {l : List Nat} (hn : l.Nodup) (hl : ∀ h ∈ l, ∃ ws, reco S h = some ws ∧ 6 ≤ ws.length) : l.length ≤ 8 * S.a.pages.length := by
  have key : ∀ h ∈ l, ∃ a r, Place S.a o a r ∧ 8 ≤ r ∧ ∃ (k : Nat) (x : Slot), S.t.slots[k]? = some x ∧ x.is = 1 ∧ h = nameOf x.gen k ∧ x.addr = a := fun h hm => by
    obtain ⟨ws, h1, h2⟩ := hl h hm
    exact eighth hf h1 h2
  let f : Nat → Nat := fun h => if hm : h ∈ l then (key h hm).choose / 8 else 0
  have hfv : ∀ h (hm : h ∈ l), f h = (key h hm).choose / 8 := fun h hm => by simp only [f, dif_pos hm]
  have hinj : (l.map f).Nodup := by
    refine nodup_map_inj ?_ hn
    intro x hx y hy he
    rw [hfv x hx, hfv y hy] at he
    obtain ⟨r, p1, q1, k1, s1, a1, b1, c1, d1⟩ := (key x hx).choose_spec
    obtain ⟨r', p2, q2, k2, s2, a2, b2, c2, d2⟩ := (key y hy).choose_spec
    generalize (key x hx).choose = A at *
    generalize (key y hy).choose = B at *
    rcases Place.apart hf.own p1 p2 with g | g | g
    · have e : k1 = k2 := hf.inj k1 k2 s1 s2 a1 a2 b1 b2 (by rw [d1, d2]; exact g.1)
      subst e
      rw [a1] at a2
      injection a2 with a2
      subst a2
      rw [c1, c2]
    · omega
    · omega
  have hsub : ∀ y ∈ l.map f, y ∈ S.a.keys.flatMap fun p => (List.range 8).map fun j => 8 * p + j := by
    intro y hy
    obtain ⟨h, hm, rfl⟩ := List.mem_map.1 hy
    rw [hfv h hm]
    obtain ⟨r, p1, q1, _⟩ := (key h hm).choose_spec
    generalize (key h hm).choose = A at *
    have hp := (p1.ok hf.own (b := 0) (by omega)).2.2
    refine List.mem_flatMap.2 ⟨A / 64, hp, List.mem_map.2 ⟨A / 8 % 8, List.mem_range.2 (by omega), by omega⟩⟩
  have := nodup_le hinj hsub
  rw [List.length_map, List.length_flatMap] at this
  have e : (S.a.keys.map fun p => ((List.range 8).map fun j => 8 * p + j).length) = S.a.keys.map fun _ => 8 := by
    refine List.map_congr_left fun p _ => ?_
    simp
  rw [e, List.map_const', sum_eights, keys_length] at this
  omega
theorem At.rec {S : St} : ∀ {t : Tr}, At S t → ∀ h ∈ t.hs, ∃ n : Nd, reco S h = some (ndWords n)
  | nil, _, h, hm => by cases hm
  | node l d m r, ⟨h1, h2, h3⟩, h, hm => by
    rw [hs_node] at hm
    rcases List.mem_append.1 hm with hm | hm
    · exact h2.rec h hm
    · rcases List.mem_cons.1 hm with rfl | hm
      · exact ⟨_, h1⟩
      · exact h3.rec h hm
theorem Bin.limit {Ok : Tr → Prop} {S : St} {o : Nat → Nat} {t : Tr} (h : Bin Ok S o t) : t.its.length < Lf.limit S := by
  have := recs_le h.fit h.hs.1 fun y hy => by
    obtain ⟨n, hn⟩ := h.at'.rec y hy
    exact ⟨_, hn, by simp [ndWords]⟩
  unfold Tr.hs at this
  rw [List.length_map] at this
  unfold Lf.limit St.words
  omega
def belowB (key : List UInt8) (l : List It) : Nat := l.countP fun d => decide (cmpB d.k key < 0)
theorem belowB_append (key : List UInt8) (a b : List It) : belowB key (a ++ b) = belowB key a + belowB key b := List.countP_append
theorem belowB_all {key : List UInt8} {l : List It} (h : ∀ d ∈ l, cmpB d.k key < 0) : belowB key l = l.length := List.countP_eq_length.2 fun d hd => by simpa using h d hd
theorem belowB_none {key : List UInt8} {l : List It} (h : ∀ d ∈ l, ¬ cmpB d.k key < 0) : belowB key l = 0 := List.countP_eq_zero.2 fun d hd => by simpa using h d hd
theorem down_fit {S : St} {o : Nat → Nat} (hf : Fit S o) (key : List UInt8) : ∀ (f : Nat) {t : Tr} {b : Nat}, At S t → (∀ d ∈ t.its, Blobs S d) → t.its.Pairwise klt → t.its.length ≤ f → b + t.its.length < 1000000 →
    ∃ hh, downM S key f t.root b = some (hh, b + belowB key t.its) ∧ ((hh = 0 ∧ ∀ d ∈ t.its, d.k ≠ key) ∨ ∃ d ∈ t.its, d.k = key ∧ hh = d.h)
  | 0, t, b, ha, hb, hs, hl, hc => by
    cases t with
    | nil => exact ⟨0, rfl, Or.inl ⟨rfl, fun _ hd => by cases hd⟩⟩
    | node l d m r => simp [its] at hl
  | f + 1, t, b, ha, hb, hs, hl, hc => by
    cases t with
    | nil => exact ⟨0, by rw [downM_succ]; rfl, Or.inl ⟨rfl, fun _ hd => by cases hd⟩⟩
    | node l d m r =>
      have g1 := ha.getNode hf
      obtain ⟨h1, h2, h3⟩ := ha
      have hd0 := (look_ok hf h1).1
      have hi : (node l d m r).its = l.its ++ d :: r.its := rfl
      rw [hi] at hb hs hl hc ⊢
      simp only [List.length_append, List.length_cons] at hl hc
      obtain ⟨s1, s2, s3⟩ := List.pairwise_append.1 hs
      obtain ⟨s4, s5⟩ := List.pairwise_cons.1 s2
      have hbd := hb d (by simp)
      have hbl := At.blob hf hbd.lk hbd.k
      have er : (node l d m r).root = d.h := rfl
      have hsz := h2.size hf (by omega)
      rw [er, downM_succ, if_neg (by omega), g1, if_neg (by simp)]
      simp only [nd]
      rw [hbl]
      simp only
      rw [belowB_append]
      by_cases c1 : cmpB key d.k < 0
      · rw [if_pos c1]
        obtain ⟨hh, e, q⟩ := down_fit hf key f h2 (fun x hx => hb x (by simp [hx])) s1 (by omega) (b := b) (by omega)
        have hz : belowB key (d :: r.its) = 0 := belowB_none fun x hx => by
          rcases List.mem_cons.1 hx with rfl | hx
          · rw [cmpB_swap]; omega
          · have := cmpB_trans c1 (s4 x hx); rw [cmpB_swap]; omega
        refine ⟨hh, by rw [e, hz]; rfl, ?_⟩
        rcases q with ⟨q1, q2⟩ | ⟨x, hx, q⟩
        · left
          refine ⟨q1, fun x hx => ?_⟩
          rcases List.mem_append.1 hx with hx | hx
          · exact q2 x hx
          · intro e
            rcases List.mem_cons.1 hx with rfl | hx
            · rw [← e, cmpB_refl] at c1; omega
            · have := cmpB_trans c1 (s4 x hx); rw [e, cmpB_refl] at this; omega
        · exact Or.inr ⟨x, by simp [hx], q⟩
      · rw [if_neg c1, hsz]
        simp only
        by_cases c2 : 0 < cmpB key d.k
        · rw [if_pos c2, num_of (by omega)]
          simp only
          have c2' : cmpB d.k key < 0 := by rw [cmpB_swap]; omega
          obtain ⟨hh, e, q⟩ := down_fit hf key f h3 (fun x hx => hb x (by simp [hx])) s5 (by omega) (b := b + (l.its.length + 1)) (by omega)
          have hz : belowB key l.its = l.its.length := belowB_all fun x hx => cmpB_trans (s3 x hx d (List.mem_cons_self ..)) c2'
          have hz2 : belowB key (d :: r.its) = belowB key r.its + 1 := by
            unfold belowB; rw [List.countP_cons, if_pos (by simpa using c2')]
          refine ⟨hh, by rw [e, hz, hz2]; congr 2; omega, ?_⟩
          rcases q with ⟨q1, q2⟩ | ⟨x, hx, q⟩
          · left
            refine ⟨q1, fun x hx => ?_⟩
            rcases List.mem_append.1 hx with hx | hx
            · intro e
              have := cmpB_trans (s3 x hx d (List.mem_cons_self ..)) c2'
              rw [e, cmpB_refl] at this; omega
            · rcases List.mem_cons.1 hx with rfl | hx
              · intro e; rw [e, cmpB_refl] at c2; omega
              · exact q2 x hx
          · exact Or.inr ⟨x, by simp [hx], q⟩
        · rw [if_neg c2, num_of (by omega)]
          have hke : key = d.k := cmpB_eq0 (by omega)
          have hz : belowB key l.its = l.its.length := belowB_all fun x hx => by rw [hke]; exact s3 x hx d (List.mem_cons_self ..)
          have hz2 : belowB key (d :: r.its) = 0 := belowB_none fun x hx => by
            rcases List.mem_cons.1 hx with rfl | hx
            · rw [hke, cmpB_refl]; omega
            · have := s4 x hx; unfold klt at this; rw [hke, cmpB_swap]; omega
          exact ⟨d.h, by rw [hz, hz2]; rfl, Or.inr ⟨d, by simp, hke.symm, rfl⟩⟩
theorem at_fit {S : St} {o : Nat → Nat} (hf : Fit S o) : ∀ (f : Nat) {t : Tr} {k : Nat} (_ : At S t) (_ : t.its.length ≤ f) (_ : t.its.length < 1000000) (hk : k < t.its.length), atM S f t.root k = some (t.its[k].h, 0)
  | 0, t, k, ha, hl, hc, hk => by omega
  | f + 1, t, k, ha, hl, hc, hk => by
    cases t with
    | nil => simp [its] at hk
    | node l d m r =>
      have g1 := ha.getNode hf
      obtain ⟨h1, h2, h3⟩ := ha
      have hi : (node l d m r).its = l.its ++ d :: r.its := rfl
      have hlen : (node l d m r).its.length = l.its.length + (r.its.length + 1) := by rw [hi]; simp
      have hsz := h2.size hf (by omega)
      have er : (node l d m r).root = d.h := rfl
      rw [er, atM_succ, g1, if_neg (by simp)]
      simp only [nd]
      rw [hsz]
      simp only
      by_cases c1 : k < l.its.length
      · rw [if_pos c1, at_fit hf f h2 (by omega) (by omega) c1]
        simp only [hi]
        rw [List.getElem_append_left c1]
      · rw [if_neg c1]
        by_cases c2 : l.its.length < k
        · rw [if_pos c2, at_fit hf f h3 (k := k - (l.its.length + 1)) (by omega) (by omega) (by omega)]
          simp only [hi]
          rw [List.getElem_append_right (by omega), List.getElem_cons, dif_neg (by omega)]
          congr 3
        · rw [if_neg c2]
          have : k = l.its.length := by omega
          subst this
          simp [hi]
theorem Bin.down {Ok : Tr → Prop} {S : St} {o : Nat → Nat} {t : Tr} (h : Bin Ok S o t) (hc : t.its.length < 100000) (key : List UInt8) : ∃ hh, downM S key (Lf.limit S) t.root 0 = some (hh, belowB key t.its) ∧ ((hh = 0 ∧ ∀ d ∈ t.its, d.k ≠ key) ∨ ∃ d ∈ t.its, d.k = key ∧ hh = d.h) := by
  obtain ⟨hh, e, q⟩ := down_fit h.fit key (Lf.limit S) h.at' h.blobs h.sorted (by have := h.limit; omega) (b := 0) (by omega)
  rw [Nat.zero_add] at e
  exact ⟨hh, e, q⟩
theorem Bin.place {Ok : Tr → Prop} {S : St} {o : Nat → Nat} {t : Tr} (h : Bin Ok S o t) (hc : t.its.length < 100000) {k : Nat} (hk : k < t.its.length) : treeAtM S t.root k = some (t.its[k].k, t.its[k].v) := by
  have hm : t.its[k] ∈ t.its := List.getElem_mem hk
  have hb := h.blobs _ hm
  have hw : walkAtM S t.root k = some (t.its[k].h, 0) := by
    unfold walkAtM
    rw [h.at'.size h.fit (by omega)]
    simp only
    rw [if_neg (by omega), at_fit h.fit _ h.at' (by have := h.limit; omega) (by omega) hk]
  have hnode : ∃ n0 : Nd, reco S t.its[k].h = some (ndWords n0) ∧ n0.key = t.its[k].kh ∧ n0.val = t.its[k].vh := by
    have : ∀ {t : Tr}, At S t → ∀ d ∈ t.its, ∃ n0 : Nd, reco S d.h = some (ndWords n0) ∧ n0.key = d.kh ∧ n0.val = d.vh := by
      intro t
      induction t with
      | nil => intro _ d hd; cases hd
      | node l e m r ih1 ih2 =>
        intro ha d hd
        obtain ⟨h1, h2, h3⟩ := ha
        rcases List.mem_append.1 (show d ∈ l.its ++ e :: r.its from hd) with hd | hd
        · exact ih1 h2 d hd
        · rcases List.mem_cons.1 hd with rfl | hd
          · exact ⟨_, h1, rfl, rfl⟩
          · exact ih2 h3 d hd
    exact this h.at' _ hm
  obtain ⟨n0, e1, e2, e3⟩ := hnode
  unfold treeAtM
  rw [hw]
  simp only
  rw [if_neg (by have := (look_ok h.fit e1).2.1; omega), getNode_look h.fit e1]
  simp only
  rw [e2, e3, At.blob h.fit hb.lk hb.k, At.blob h.fit hb.lv hb.v]
end Tr
end Go.Proofs.YtepdkbmnkjfcpaaGreatDoor
namespace Go.Proofs.YtepdkbmnkjfcpaaGreatDoor
open Lf Tr
structure Bn (K : Type) where
  h : Nat
  es : List It
  ks : List K
def Bt : Nat → Type
  | 0 => Empty
  | d + 1 => Bn (Bt d)
namespace Bt
def weave : List It → List (List It) → List It
  | [], [] => []
  | [], k :: _ => k
  | e :: es, [] => e :: weave es []
  | e :: es, k :: ks => k ++ e :: weave es ks
def lo : List It → List (List It) → List It
  | e :: es, k :: ks => k ++ e :: lo es ks
  | _, _ => []
def hd : {d : Nat} → Bt d → Nat
  | 0, x => nomatch x
  | _ + 1, x => Bn.h x
def nk : {d : Nat} → Bt d → Nat
  | 0, x => nomatch x
  | _ + 1, x => (Bn.es x).length
def its : {d : Nat} → Bt d → List It
  | 0, x => nomatch x
  | _ + 1, x => weave (Bn.es x) ((Bn.ks x).map fun k => its k)
def nodes : {d : Nat} → Bt d → List Nat
  | 0, x => nomatch x
  | _ + 1, x => Bn.h x :: ((Bn.ks x).map fun k => nodes k).flatten
def Ok (t : Nat) : {d : Nat} → Bt d → Prop
  | 0, x => nomatch x
  | d + 1, x => (Bn.es x).length ≤ 2 * t - 1 ∧ ((Bn.ks x).length = if d = 0 then 0 else (Bn.es x).length + 1) ∧ ∀ k ∈ Bn.ks x, Ok t k ∧ t ≤ nk k + 1
theorem its_mk {d : Nat} (x : Bt (d + 1)) : its x = weave (Bn.es x) ((Bn.ks x).map its) := rfl
theorem nodes_mk {d : Nat} (x : Bt (d + 1)) : nodes x = Bn.h x :: ((Bn.ks x).map nodes).flatten := rfl
theorem weave_leaf : ∀ es : List It, weave es [] = es
  | [] => rfl
  | e :: es => by rw [weave, weave_leaf es]
theorem nil_of_zero (l : List (Bt 0)) : l = [] := by
  cases l with
  | nil => rfl
  | cons a _ => exact nomatch (a : Empty)
theorem its_leaf (x : Bt 1) : its x = Bn.es x := by rw [its_mk, nil_of_zero (Bn.ks x)]; exact weave_leaf _
theorem weave_at : ∀ (es : List It) (ks : List (List It)) (k : Nat), k ≤ es.length → ks.length = es.length + 1 → weave es ks = lo (es.take k) (ks.take k) ++ weave (es.drop k) (ks.drop k)
  | _, _, 0, _, _ => by simp [lo]
  | [], _, k + 1, h, _ => by simp at h
  | e :: es, [], k + 1, _, h => by simp at h
  | e :: es, a :: ks, k + 1, h1, h2 => by
    simp only [List.length_cons, Nat.add_le_add_iff_right, Nat.add_right_cancel_iff] at h1 h2
    have := weave_at es ks k h1 h2
    simp only [List.take_succ_cons, List.drop_succ_cons, lo, weave, this, List.append_assoc, List.cons_append]
def hiR (es : List It) (ks : List (List It)) (k : Nat) : List It :=
  match es.drop k with
  | [] => []
  | e :: r => e :: weave r (ks.drop (k + 1))
theorem weave_kid {es : List It} {ks : List (List It)} {k : Nat} (h1 : k ≤ es.length) (h2 : ks.length = es.length + 1) : weave es ks = lo (es.take k) (ks.take k) ++ (ks.getD k [] ++ hiR es ks k) := by
  rw [weave_at es ks k h1 h2]
  congr 1
  have hk : k < ks.length := by omega
  rw [List.drop_eq_getElem_cons hk, List.getD_eq_getElem?_getD, List.getElem?_eq_getElem hk]
  unfold hiR
  cases he : es.drop k with
  | nil => simp [weave]
  | cons e r => simp [weave]
theorem hiR_lt {es : List It} {ks : List (List It)} {k : Nat} (h : k < es.length) : hiR es ks k = es[k] :: weave (es.drop (k + 1)) (ks.drop (k + 1)) := by
  unfold hiR
  rw [List.drop_eq_getElem_cons h]
theorem hiR_end {es : List It} {ks : List (List It)} {k : Nat} (h : es.length ≤ k) : hiR es ks k = [] := by
  unfold hiR
  rw [List.drop_eq_nil_of_le h]
theorem lo_length : ∀ (es : List It) (ks : List (List It)), es.length = ks.length → (lo es ks).length = es.length + (ks.map List.length).sum
  | [], [], _ => rfl
  | [], _ :: _, h => by simp at h
  | _ :: _, [], h => by simp at h
  | e :: es, k :: ks, h => by
    simp only [List.length_cons, Nat.add_right_cancel_iff] at h
    have := lo_length es ks h
    simp only [lo, List.length_append, List.length_cons, this, List.map_cons, List.sum_cons]
    omega
theorem sub_weave : ∀ (es : List It) (ks : List (List It)), (ks = [] ∨ ks.length = es.length + 1) → es.Sublist (weave es ks)
  | [], _, _ => List.nil_sublist _
  | e :: es, [], _ => by rw [weave_leaf]; exact List.Sublist.refl _
  | e :: es, k :: ks, h => by
    have h : ks.length = es.length + 1 := by
      rcases h with h | h
      · cases h
      · simpa using h
    rw [weave]
    exact ((sub_weave es ks (Or.inr h)).cons_cons e).trans (List.sublist_append_right _ _)
theorem klt_trans {a b c : It} (h : klt a b) (g : klt b c) : klt a c := cmpB_trans h g
theorem lo_below {key : List UInt8} : ∀ (es : List It) (ks : List (List It)), es.length = ks.length → (lo es ks).Pairwise klt → (∀ e ∈ es, cmpB e.k key < 0) → ∀ d ∈ lo es ks, cmpB d.k key < 0
  | [], _, _, _, _, d, hd => by cases hd
  | _ :: _, [], h, _, _, d, hd => by simp at h
  | e :: es, k :: ks, h, hp, hb, d, hd => by
    simp only [List.length_cons, Nat.add_right_cancel_iff] at h
    rw [lo] at hp hd
    obtain ⟨p1, p2, p3⟩ := List.pairwise_append.1 hp
    have he := hb e (List.mem_cons_self ..)
    rcases List.mem_append.1 hd with hd | hd
    · exact cmpB_trans (p3 d hd e (List.mem_cons_self ..)) he
    · rcases List.mem_cons.1 hd with rfl | hd
      · exact he
      · exact lo_below es ks h (List.pairwise_cons.1 p2).2 (fun e he => hb e (List.mem_cons_of_mem _ he)) d hd
theorem below_take {key : List UInt8} : ∀ {l : List It}, l.Pairwise klt → (∀ d ∈ l.take (belowB key l), cmpB d.k key < 0) ∧ (∀ d ∈ l.drop (belowB key l), ¬ cmpB d.k key < 0) ∧ belowB key l ≤ l.length
  | [], _ => ⟨by simp [belowB], by simp [belowB], Nat.le_refl _⟩
  | e :: l, h => by
    obtain ⟨h1, h2⟩ := List.pairwise_cons.1 h
    obtain ⟨g1, g2, g3⟩ := below_take (key := key) h2
    by_cases he : cmpB e.k key < 0
    · have hb : belowB key (e :: l) = belowB key l + 1 := by unfold belowB; rw [List.countP_cons_of_pos (by simpa using he)]
      rw [hb]
      refine ⟨fun d hd => ?_, fun d hd => ?_, by simp only [List.length_cons]; omega⟩
      · rw [List.take_succ_cons] at hd
        rcases List.mem_cons.1 hd with rfl | hd
        · exact he
        · exact g1 d hd
      · rw [List.drop_succ_cons] at hd
        exact g2 d hd
    · have hall : ∀ d ∈ l, ¬ cmpB d.k key < 0 := fun d hd hlt => he (cmpB_trans (h1 d hd) hlt)
      have hb : belowB key (e :: l) = 0 := belowB_none fun d hd => by
        rcases List.mem_cons.1 hd with rfl | hd
        · exact he
        · exact hall d hd
      rw [hb]
      refine ⟨by simp, fun d hd => ?_, Nat.zero_le _⟩
      rw [List.drop_zero] at hd
      rcases List.mem_cons.1 hd with rfl | hd
      · exact he
      · exact hall d hd
def findB (key : List UInt8) (l : List It) : Option It := l.find? fun d => d.k == key
theorem findB_append {key : List UInt8} {a b : List It} (h : ∀ d ∈ a, d.k ≠ key) : findB key (a ++ b) = findB key b := by
  unfold findB
  rw [List.find?_append, List.find?_eq_none.2 (fun d hd => by simpa using h d hd)]
  rfl
theorem findB_none {key : List UInt8} {a : List It} (h : ∀ d ∈ a, d.k ≠ key) : findB key a = none := List.find?_eq_none.2 fun d hd => by simpa using h d hd
theorem findB_left {key : List UInt8} {a b : List It} (h : ∀ d ∈ b, d.k ≠ key) : findB key (a ++ b) = findB key a := by
  unfold findB
  have hb : b.find? (fun d => d.k == key) = none := List.find?_eq_none.2 fun d hd => by simpa using h d hd
  rw [List.find?_append, hb]
  cases List.find? (fun d : It => d.k == key) a <;> rfl
theorem findB_cons {key : List UInt8} {e : It} {l : List It} (h : e.k = key) : findB key (e :: l) = some e := by
  unfold findB
  rw [List.find?_cons, h]
  simp
theorem ne_of_lt {key : List UInt8} {d : It} (h : cmpB d.k key < 0) : d.k ≠ key := fun e => by rw [e, cmpB_refl] at h; omega
theorem ne_of_gt {key : List UInt8} {d : It} (h : 0 < cmpB d.k key) : d.k ≠ key := fun e => by rw [e, cmpB_refl] at h; omega
structure Ord (key : List UInt8) (es : List It) (ks : List (List It)) : Prop where
  len : ks.length = es.length + 1
  lo : ∀ d ∈ lo (es.take (belowB key es)) (ks.take (belowB key es)), cmpB d.k key < 0
  le : belowB key es ≤ es.length
  hi : ∀ d ∈ hiR es ks (belowB key es), ¬ cmpB d.k key < 0
  kid : (ks.getD (belowB key es) []).Pairwise klt
  hiS : (hiR es ks (belowB key es)).Pairwise klt
  kh : ∀ a ∈ ks.getD (belowB key es) [], ∀ b ∈ hiR es ks (belowB key es), klt a b
theorem ord_of {key : List UInt8} {es : List It} {ks : List (List It)} (h : ks.length = es.length + 1) (hs : (weave es ks).Pairwise klt) : Ord key es ks := by
  have hes : es.Pairwise klt := hs.sublist (sub_weave es ks (Or.inr h))
  obtain ⟨b1, b2, b3⟩ := below_take (key := key) hes
  have hw := weave_kid (ks := ks) b3 h
  rw [hw] at hs
  obtain ⟨p1, p2, p3⟩ := List.pairwise_append.1 hs
  obtain ⟨q1, q2, q3⟩ := List.pairwise_append.1 p2
  refine ⟨h, lo_below _ _ (by rw [List.length_take, List.length_take]; omega) p1 b1, b3, ?_, q1, q2, q3⟩
  intro d hd
  by_cases hk : belowB key es < es.length
  · rw [hiR_lt hk] at hd q2
    have he := b2 es[belowB key es] (by rw [List.drop_eq_getElem_cons hk]; exact List.mem_cons_self ..)
    rcases List.mem_cons.1 hd with rfl | hd
    · exact he
    · exact fun hlt => he (cmpB_trans ((List.pairwise_cons.1 q2).1 d hd) hlt)
  · rw [hiR_end (by omega)] at hd
    cases hd
theorem Ord.parts {key : List UInt8} {es : List It} {ks : List (List It)} (h : Ord key es ks) : weave es ks = Bt.lo (es.take (belowB key es)) (ks.take (belowB key es)) ++ (ks.getD (belowB key es) [] ++ hiR es ks (belowB key es)) := weave_kid h.le h.len
theorem Ord.lo_len {key : List UInt8} {es : List It} {ks : List (List It)} (h : Ord key es ks) : (Bt.lo (es.take (belowB key es)) (ks.take (belowB key es))).length = belowB key es + ((ks.take (belowB key es)).map List.length).sum := by
  have h1 := h.le
  have h2 := h.len
  rw [lo_length _ _ (by rw [List.length_take, List.length_take]; omega), List.length_take]
  omega
theorem Ord.below {key : List UInt8} {es : List It} {ks : List (List It)} (h : Ord key es ks) : belowB key (weave es ks) = belowB key es + ((ks.take (belowB key es)).map List.length).sum + belowB key (ks.getD (belowB key es) []) := by
  rw [h.parts, belowB_append, belowB_append, belowB_all h.lo, belowB_none h.hi, h.lo_len]
  rfl
theorem Ord.here {key : List UInt8} {es : List It} {ks : List (List It)} (h : Ord key es ks) (hk : belowB key es < es.length) (he : (es[belowB key es]).k = key) : findB key (weave es ks) = some es[belowB key es] ∧ belowB key (ks.getD (belowB key es) []) = (ks.getD (belowB key es) []).length := by
  have hkid : ∀ d ∈ ks.getD (belowB key es) [], cmpB d.k key < 0 := fun d hd => by
    have := h.kh d hd es[belowB key es] (by rw [hiR_lt hk]; exact List.mem_cons_self ..)
    unfold klt at this
    rwa [he] at this
  refine ⟨?_, belowB_all hkid⟩
  rw [h.parts, findB_append fun d hd => ne_of_lt (h.lo d hd), findB_append fun d hd => ne_of_lt (hkid d hd), hiR_lt hk, findB_cons he]
theorem Ord.down {key : List UInt8} {es : List It} {ks : List (List It)} (h : Ord key es ks) (hn : ∀ hk : belowB key es < es.length, (es[belowB key es]).k ≠ key) : findB key (weave es ks) = findB key (ks.getD (belowB key es) []) := by
  rw [h.parts, findB_append fun d hd => ne_of_lt (h.lo d hd), findB_left]
  intro d hd
  by_cases hk : belowB key es < es.length
  · have h2 := h.hi
    have h3 := h.hiS
    rw [hiR_lt hk] at hd h2 h3
    have e0 := h2 _ (List.mem_cons_self ..)
    have e1 : 0 < cmpB (es[belowB key es]).k key := by
      rcases Int.lt_trichotomy (cmpB (es[belowB key es]).k key) 0 with g | g | g
      · exact absurd g e0
      · exact absurd (cmpB_eq0 g) (hn hk)
      · exact g
    rcases List.mem_cons.1 hd with rfl | hd
    · exact ne_of_gt e1
    · have := (List.pairwise_cons.1 h3).1 d hd
      have h4 : cmpB key d.k < 0 := cmpB_trans (by rw [cmpB_swap]; omega) this
      exact fun e => by rw [e, cmpB_refl] at h4; omega
  · rw [hiR_end (by omega)] at hd
    cases hd
theorem leaf_find {key : List UInt8} {es : List It} (hs : es.Pairwise klt) (hn : ∀ hk : belowB key es < es.length, (es[belowB key es]).k ≠ key) : ∀ d ∈ es, d.k ≠ key := by
  obtain ⟨b1, b2, b3⟩ := below_take (key := key) hs
  intro d hd
  rw [← List.take_append_drop (belowB key es) es] at hd
  rcases List.mem_append.1 hd with hd | hd
  · exact ne_of_lt (b1 d hd)
  · by_cases hk : belowB key es < es.length
    · have hs2 := hs.drop (i := belowB key es)
      rw [List.drop_eq_getElem_cons hk] at hd b2 hs2
      have e0 := b2 _ (List.mem_cons_self ..)
      have e1 : 0 < cmpB (es[belowB key es]).k key := by
        rcases Int.lt_trichotomy (cmpB (es[belowB key es]).k key) 0 with g | g | g
        · exact absurd g e0
        · exact absurd (cmpB_eq0 g) (hn hk)
        · exact g
      rcases List.mem_cons.1 hd with rfl | hd
      · exact ne_of_gt e1
      · have := (List.pairwise_cons.1 hs2).1 d hd
        have h4 : cmpB key d.k < 0 := cmpB_trans (by rw [cmpB_swap]; omega) this
        exact fun e => by rw [e, cmpB_refl] at h4; omega
    · rw [List.drop_eq_nil_of_le (by omega)] at hd
      cases hd
theorem leaf_here {key : List UInt8} {es : List It} (hs : es.Pairwise klt) (hk : belowB key es < es.length) (he : (es[belowB key es]).k = key) : findB key es = some es[belowB key es] := by
  obtain ⟨b1, b2, b3⟩ := below_take (key := key) hs
  conv => lhs; rw [← List.take_append_drop (belowB key es) es]
  rw [findB_append fun d hd => ne_of_lt (b1 d hd), List.drop_eq_getElem_cons hk, findB_cons he]
theorem Ok.kids {t d : Nat} {x : Bt (d + 2)} (h : Ok t x) : (Bn.ks x).length = (Bn.es x).length + 1 := by
  have := h.2.1
  rwa [if_neg (by omega)] at this
theorem Ok.rows {t d : Nat} {x : Bt (d + 2)} (h : Ok t x) : ((Bn.ks x).map its).length = (Bn.es x).length + 1 := by
  rw [List.length_map]; exact h.kids
theorem getD_its {d : Nat} {ks : List (Bt d)} {k : Nat} (h : k < ks.length) : (ks.map its).getD k [] = its ks[k] := by
  rw [List.getD_eq_getElem?_getD, List.getElem?_map, List.getElem?_eq_getElem h]; rfl
theorem pow_le (t : Nat) (ht : 2 ≤ t) : ∀ {d : Nat} {x : Bt d}, Ok t x → 1 ≤ nk x → 2 ^ d ≤ (its x).length + 1
  | 0, x, _, _ => nomatch x
  | 1, x, _, h => by
    rw [its_leaf]
    have : 1 ≤ (Bn.es x).length := h
    simp only [Nat.pow_one]
    omega
  | d + 2, x, h, h1 => by
    have hk := Ok.kids h
    have h1 : 1 ≤ (Bn.es x).length := h1
    obtain ⟨e, es, he⟩ := List.exists_cons_of_length_pos (l := Bn.es x) (by omega)
    have hl2 : 2 ≤ (Bn.ks x).length := by omega
    obtain ⟨a, r, hr⟩ := List.exists_cons_of_length_pos (l := Bn.ks x) (by omega)
    obtain ⟨b, r2, hr2⟩ := List.exists_cons_of_length_pos (l := r) (by rw [hr] at hl2; simp at hl2; omega)
    subst hr2
    have ha := h.2.2 a (by rw [hr]; exact List.mem_cons_self ..)
    have hb := h.2.2 b (by rw [hr]; exact List.mem_cons_of_mem _ (List.mem_cons_self ..))
    have pa := pow_le t ht ha.1 (by omega)
    have pb := pow_le t ht hb.1 (by omega)
    have hi : its (d := d + 2) x = its a ++ e :: weave es (its b :: r2.map its) := by
      rw [its_mk, he, hr]; rfl
    have hw : (its b).length ≤ (weave es (its b :: r2.map its)).length := by
      cases es with
      | nil => simp [weave]
      | cons f es => simp [weave]
    rw [hi, List.length_append, List.length_cons, Nat.pow_succ]
    omega
end Bt
end Go.Proofs.YtepdkbmnkjfcpaaGreatDoor
namespace Go.Proofs.YtepdkbmnkjfcpaaGreatDoor
open Lf Tr
namespace Bt
theorem weave_app : ∀ (A B : List It) (C D : List (List It)), A.length = C.length → weave (A ++ B) (C ++ D) = lo A C ++ weave B D
  | [], _, [], _, _ => rfl
  | [], _, _ :: _, _, h => by simp at h
  | _ :: _, _, [], _, h => by simp at h
  | a :: A, B, c :: C, D, h => by
    simp only [List.length_cons, Nat.add_right_cancel_iff] at h
    simp only [List.cons_append, weave, lo, weave_app A B C D h, List.append_assoc]
theorem split_list {α : Type} {l : List α} {k : Nat} (h : k < l.length) : l = l.take k ++ l[k] :: l.drop (k + 1) := by
  conv => lhs; rw [← List.take_append_drop k l, List.drop_eq_getElem_cons h]
theorem weave_mid {es : List It} {ks : List (List It)} {i : Nat} (h1 : i < es.length) (h2 : ks.length = es.length + 1) : weave es ks = weave (es.take i) (ks.take (i + 1)) ++ es[i] :: weave (es.drop (i + 1)) (ks.drop (i + 1)) := by
  have hk : i < ks.length := by omega
  have e3 : ks.take (i + 1) = ks.take i ++ [ks[i]] := by rw [List.take_succ_eq_append_getElem hk]
  have e4 := weave_app (es.take i) [] (ks.take i) [ks[i]] (by rw [List.length_take, List.length_take]; omega)
  rw [List.append_nil] at e4
  rw [e3, e4]
  conv => lhs; rw [split_list h1, split_list hk]
  rw [weave_app _ _ _ _ (by rw [List.length_take, List.length_take]; omega), weave]
  simp [weave]
theorem weave_length : ∀ (es : List It) (ks : List (List It)), ks = [] ∨ ks.length = es.length + 1 → (weave es ks).length = es.length + (ks.map List.length).sum
  | [], [], _ => rfl
  | [], [k], _ => by simp [weave]
  | [], _ :: _ :: _, h => by simp at h
  | e :: es, [], _ => by rw [weave_leaf]; simp
  | e :: es, k :: ks, h => by
    have h : ks.length = es.length + 1 := by simpa using h
    have := weave_length es ks (Or.inr h)
    simp only [weave, List.length_append, List.length_cons, this, List.map_cons, List.sum_cons]
    omega
def insB (e : It) (l : List It) : List It := l.take (belowB e.k l) ++ e :: l.drop (belowB e.k l)
theorem insB_parts {e : It} {A K B : List It} (hA : ∀ d ∈ A, cmpB d.k e.k < 0) (hB : ∀ d ∈ B, ¬ cmpB d.k e.k < 0) : insB e (A ++ (K ++ B)) = A ++ (insB e K ++ B) := by
  have hb : belowB e.k (A ++ (K ++ B)) = A.length + belowB e.k K := by rw [belowB_append, belowB_append, belowB_all hA, belowB_none hB]; rfl
  have hk : belowB e.k K ≤ K.length := List.countP_le_length
  unfold insB
  rw [hb, List.take_append, List.drop_append, List.take_of_length_le (by omega), show A.drop (A.length + belowB e.k K) = [] from List.drop_eq_nil_of_le (by omega), Nat.add_sub_cancel_left, List.take_append, List.drop_append,
    Nat.sub_eq_zero_of_le hk, List.take_zero, List.drop_zero, List.append_nil, List.nil_append]
  simp [List.append_assoc]
theorem insB_length (e : It) (l : List It) : (insB e l).length = l.length + 1 := by
  have : belowB e.k l ≤ l.length := List.countP_le_length
  unfold insB
  rw [List.length_append, List.length_cons, List.length_take, List.length_drop]
  omega
theorem insB_mem {e d : It} {l : List It} : d ∈ insB e l ↔ d = e ∨ d ∈ l := by
  unfold insB
  conv => rhs; rw [← List.take_append_drop (belowB e.k l) l]
  simp only [List.mem_append, List.mem_cons]
  constructor
  · rintro (h | h | h)
    · exact Or.inr (Or.inl h)
    · exact Or.inl h
    · exact Or.inr (Or.inr h)
  · rintro (h | h | h)
    · exact Or.inr (Or.inl h)
    · exact Or.inl h
    · exact Or.inr (Or.inr h)
theorem insB_sorted {e : It} {l : List It} (hs : l.Pairwise klt) (hn : ∀ d ∈ l, d.k ≠ e.k) : (insB e l).Pairwise klt := by
  obtain ⟨b1, b2, b3⟩ := below_take (key := e.k) hs
  unfold insB
  have hgt : ∀ d ∈ l.drop (belowB e.k l), klt e d := fun d hd => by
    have h1 := b2 d hd
    have h2 := hn d (List.mem_of_mem_drop hd)
    unfold klt
    rw [cmpB_swap]
    rcases Int.lt_trichotomy (cmpB d.k e.k) 0 with g | g | g
    · exact absurd g h1
    · exact absurd (cmpB_eq0 g) h2
    · omega
  refine List.pairwise_append.2 ⟨hs.take, List.pairwise_cons.2 ⟨hgt, hs.drop⟩, fun a ha b hb => ?_⟩
  rcases List.mem_cons.1 hb with rfl | hb
  · exact b1 a ha
  · exact klt_trans (b1 a ha) (hgt b hb)
theorem Ord.insert {e : It} {es : List It} {ks : List (List It)} (h : Ord e.k es ks) : insB e (weave es ks) = Bt.lo (es.take (belowB e.k es)) (ks.take (belowB e.k es)) ++ (insB e (ks.getD (belowB e.k es) []) ++ hiR es ks (belowB e.k es)) := by
  rw [h.parts, insB_parts h.lo h.hi]
def OkN (t : Nat) {d : Nat} (x : Bt (d + 1)) : Prop := (Bn.es x).length ≤ 2 * t ∧ ((Bn.ks x).length = if d = 0 then 0 else (Bn.es x).length + 1) ∧ ∀ k ∈ Bn.ks x, Ok t k ∧ t ≤ nk k + 1
def leftOf (t : Nat) {d : Nat} (x : Bt (d + 1)) : Bt (d + 1) := (⟨Bn.h x, (Bn.es x).take t, (Bn.ks x).take (t + 1)⟩ : Bn (Bt d))
def rightOf (t : Nat) {d : Nat} (x : Bt (d + 1)) (h : Nat) : Bt (d + 1) := (⟨h, (Bn.es x).drop (t + 1), (Bn.ks x).drop (t + 1)⟩ : Bn (Bt d))
theorem OkN.ok {t d : Nat} {x : Bt (d + 1)} (h : OkN t x) (hl : (Bn.es x).length < 2 * t) : Ok t x := ⟨by omega, h.2.1, h.2.2⟩
theorem OkN.rows {t d : Nat} {x : Bt (d + 1)} (h : OkN t x) : ((Bn.ks x).map its = [] ∧ d = 0) ∨ (((Bn.ks x).map its).length = (Bn.es x).length + 1 ∧ d ≠ 0) := by
  by_cases hd : d = 0
  · subst hd
    exact Or.inl ⟨by rw [nil_of_zero (Bn.ks x)]; rfl, rfl⟩
  · have := h.2.1
    rw [if_neg hd] at this
    exact Or.inr ⟨by rw [List.length_map]; exact this, hd⟩
theorem OkN.split {t d : Nat} (ht : 1 ≤ t) {x : Bt (d + 1)} (h : OkN t x) (hl : (Bn.es x).length = 2 * t) (g : Nat) : its x = its (leftOf t x) ++ (Bn.es x)[t]'(by omega) :: its (rightOf t x g) ∧ Ok t (leftOf t x) ∧ Ok t (rightOf t x g) ∧ nk (leftOf t x) = t ∧ nk (rightOf t x g) + 1 = t := by
  have hL : nk (leftOf t x) = t := by show ((Bn.es x).take t).length = t; rw [List.length_take]; omega
  have hR : nk (rightOf t x g) + 1 = t := by show ((Bn.es x).drop (t + 1)).length + 1 = t; rw [List.length_drop]; omega
  have hk := h.2.1
  refine ⟨?_, ⟨by have : ((Bn.es x).take t).length = t := hL; show ((Bn.es x).take t).length ≤ _; omega, ?_, fun z hz => h.2.2 z (List.mem_of_mem_take hz)⟩, ⟨by have : ((Bn.es x).drop (t + 1)).length + 1 = t := hR; show ((Bn.es x).drop (t + 1)).length ≤ _; omega, ?_, fun z hz => h.2.2 z (List.mem_of_mem_drop hz)⟩, hL, hR⟩
  · rw [its_mk, its_mk, its_mk]
    show _ = weave ((Bn.es x).take t) (((Bn.ks x).take (t + 1)).map its) ++ _ :: weave ((Bn.es x).drop (t + 1)) (((Bn.ks x).drop (t + 1)).map its)
    rw [List.map_take, List.map_drop]
    rcases h.rows with ⟨h0, _⟩ | ⟨h0, _⟩
    · rw [h0, List.take_nil, List.drop_nil, weave_leaf, weave_leaf, weave_leaf]
      exact split_list (by omega)
    · exact weave_mid (by omega) h0
  · show ((Bn.ks x).take (t + 1)).length = if d = 0 then 0 else ((Bn.es x).take t).length + 1
    rw [List.length_take, List.length_take, hk]
    split <;> omega
  · show ((Bn.ks x).drop (t + 1)).length = if d = 0 then 0 else ((Bn.es x).drop (t + 1)).length + 1
    rw [List.length_drop, List.length_drop, hk]
    split <;> omega
theorem its_length {t d : Nat} {x : Bt (d + 1)} (h : OkN t x) : (its x).length = (Bn.es x).length + ((Bn.ks x).map fun k => (its k).length).sum := by
  rw [its_mk, weave_length]
  · rw [List.map_map]; rfl
  · rcases h.rows with ⟨h0, _⟩ | ⟨h0, _⟩
    · exact Or.inl h0
    · exact Or.inr h0
theorem Ok.okN {t d : Nat} {x : Bt (d + 1)} (h : Ok t x) : OkN t x := ⟨by have := h.1; omega, h.2.1, h.2.2⟩
end Bt
end Go.Proofs.YtepdkbmnkjfcpaaGreatDoor
