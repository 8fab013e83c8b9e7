/- B-trees: an item in the place of one of the same key: plain. -/
import Derived.Test.YtepdkbmnkjfcpaaGreatDoorVbf
set_option maxRecDepth 100000
namespace Go.Proofs.YtepdkbmnkjfcpaaGreatDoor
open Lf Tr
namespace Bt
def rep (e d : It) : It := if d.k = e.k then e else d
theorem rep_k (e d : It) : (rep e d).k = d.k := by
  unfold rep
  split
  · rename_i h; exact h.symm
  · rfl
theorem rep_ne {e d : It} (h : d.k ≠ e.k) : rep e d = d := if_neg h
def mapB (f : It → It) : {d : Nat} → Bt d → Bt d
  | 0, x => nomatch x
  | d + 1, x => (⟨Bn.h x, (Bn.es x).map f, (Bn.ks x).map fun k => mapB f k⟩ : Bn (Bt d))
theorem mapB_mk (f : It → It) {d : Nat} (x : Bt (d + 1)) : mapB f x = (⟨Bn.h x, (Bn.es x).map f, (Bn.ks x).map (mapB f)⟩ : Bn (Bt d)) := rfl
theorem weave_map (f : It → It) : ∀ (es : List It) (ks : List (List It)), weave (es.map f) (ks.map (List.map f)) = (weave es ks).map f
  | [], [] => rfl
  | [], _ :: _ => rfl
  | e :: es, [] => by
    have := weave_map f es []
    simp only [List.map_cons, List.map_nil] at this ⊢
    rw [weave, weave, List.map_cons, this]
  | e :: es, k :: ks => by
    have := weave_map f es ks
    simp only [List.map_cons]
    rw [weave, weave, List.map_append, List.map_cons, this]
theorem weave_perm : ∀ (es : List It) (ks : List (List It)), (ks = [] ∨ ks.length = es.length + 1) → (weave es ks).Perm (es ++ ks.flatten)
  | [], [], _ => List.Perm.refl _
  | [], [k], _ => by simp [weave]
  | [], _ :: _ :: _, h => by simp at h
  | e :: es, [], _ => by rw [weave_leaf]; simp
  | e :: es, k :: ks, h => by
    have ih := weave_perm es ks (Or.inr (by simpa using h))
    rw [weave, List.flatten_cons]
    refine List.perm_middle.trans (List.Perm.cons e ((ih.append_left k).trans ?_))
    show (k ++ (es ++ ks.flatten)).Perm (es ++ (k ++ ks.flatten))
    rw [← List.append_assoc, ← List.append_assoc]
    exact List.Perm.append_right _ List.perm_append_comm
theorem mapB_its (f : It → It) : ∀ {d : Nat} (x : Bt d), its (mapB f x) = (its x).map f
  | 0, x => nomatch x
  | d + 1, x => by
    show weave ((Bn.es x).map f) (((Bn.ks x).map (mapB f)).map its) = (weave (Bn.es x) ((Bn.ks x).map its)).map f
    rw [← weave_map, List.map_map, List.map_map]
    congr 1
    exact List.map_congr_left fun k _ => mapB_its f k
theorem mapB_nodes (f : It → It) : ∀ {d : Nat} (x : Bt d), nodes (mapB f x) = nodes x
  | 0, x => nomatch x
  | d + 1, x => by
    show Bn.h x :: (((Bn.ks x).map (mapB f)).map nodes).flatten = Bn.h x :: ((Bn.ks x).map nodes).flatten
    rw [List.map_map]
    congr 2
    exact List.map_congr_left fun k _ => mapB_nodes f k
theorem mapB_hd (f : It → It) : ∀ {d : Nat} (x : Bt d), hd (mapB f x) = hd x
  | 0, x => nomatch x
  | _ + 1, _ => rfl
theorem mapB_nk (f : It → It) : ∀ {d : Nat} (x : Bt d), nk (mapB f x) = nk x
  | 0, x => nomatch x
  | _ + 1, x => by
    show ((Bn.es x).map f).length = (Bn.es x).length
    rw [List.length_map]
theorem mapB_ok (f : It → It) {t : Nat} : ∀ {d : Nat} {x : Bt d}, Ok t x → Ok t (mapB f x)
  | 0, x, _ => nomatch x
  | d + 1, x, h => by
    obtain ⟨h1, h2, h3⟩ := h
    refine ⟨?_, ?_, ?_⟩
    · show ((Bn.es x).map f).length ≤ _
      rw [List.length_map]; exact h1
    · show ((Bn.ks x).map (mapB f)).length = if d = 0 then 0 else ((Bn.es x).map f).length + 1
      rw [List.length_map, List.length_map]; exact h2
    · intro k hk
      have hk : k ∈ (Bn.ks x).map (mapB f) := hk
      obtain ⟨c, hc, rfl⟩ := List.mem_map.1 hk
      exact ⟨mapB_ok f (h3 c hc).1, by rw [mapB_nk]; exact (h3 c hc).2⟩
theorem mapB_id {f : It → It} {t : Nat} : ∀ {d : Nat} {x : Bt d}, Ok t x → (∀ a ∈ its x, f a = a) → mapB f x = x
  | 0, x, _, _ => nomatch x
  | d + 1, x, h, hf => by
    have e1 : (Bn.es x).map f = Bn.es x := (List.map_congr_left fun a ha => (hf a (es_its h.okN ha) : f a = id a)).trans (List.map_id _)
    have e2 : (Bn.ks x).map (mapB f) = Bn.ks x := (List.map_congr_left fun k hk => (mapB_id (h.2.2 k hk).1 fun a ha => hf a (kid_its h.okN hk ha) : mapB f k = id k)).trans (List.map_id _)
    rw [mapB_mk, e1, e2]
    rfl
theorem flat_apart {α : Type} {R : α → α → Prop} {L : List (List α)} (h : L.flatten.Pairwise R) {i j : Nat} (hi : i < L.length) (hj : j < L.length) (hij : i < j) : ∀ x ∈ L[i], ∀ y ∈ L[j], R x y := by
  have := (List.pairwise_flatten.1 h).2
  rw [List.pairwise_iff_getElem] at this
  exact this i j hi hj hij
def nodeB (key : List UInt8) : {d : Nat} → Bt d → Option (Nat × BN × Nat)
  | 0, x => nomatch x
  | _ + 1, x => if hereB key (Bn.es x) = true then some (Bn.h x, bn x, belowB key (Bn.es x)) else match (Bn.ks x)[belowB key (Bn.es x)]? with | some k => nodeB key k | none => none
theorem nodeB_here {key : List UInt8} {d : Nat} {x : Bt (d + 1)} (h : hereB key (Bn.es x) = true) : nodeB key x = some (hd x, bn x, belowB key (Bn.es x)) := if_pos h
theorem nodeB_down {key : List UInt8} {d : Nat} {x : Bt (d + 1)} (h : hereB key (Bn.es x) = false) {k : Bt d} (hk : (Bn.ks x)[belowB key (Bn.es x)]? = some k) : nodeB key x = nodeB key k := by
  show (if hereB key (Bn.es x) = true then some (Bn.h x, bn x, belowB key (Bn.es x)) else match (Bn.ks x)[belowB key (Bn.es x)]? with | some k => nodeB key k | none => none) = _
  rw [if_neg (by rw [h]; decide), hk]
theorem nodeB_none {key : List UInt8} {d : Nat} {x : Bt (d + 1)} (h : hereB key (Bn.es x) = false) (hk : (Bn.ks x)[belowB key (Bn.es x)]? = none) : nodeB key x = none := by
  show (if hereB key (Bn.es x) = true then some (Bn.h x, bn x, belowB key (Bn.es x)) else match (Bn.ks x)[belowB key (Bn.es x)]? with | some k => nodeB key k | none => none) = _
  rw [if_neg (by rw [h]; decide), hk]
def setN (n : BN) (k : Nat) (e : It) : BN := { n with keys := n.keys.set k e.kh, vals := n.vals.set k e.vh }
theorem kne {a b : It} (h : klt a b) : a.k ≠ b.k := ne_of_lt h
theorem keys_apart {t d : Nat} {x : Bt (d + 1)} (ok : Ok t x) (hs : (its x).Pairwise klt) : (Bn.es x ++ ((Bn.ks x).map its).flatten).Pairwise fun a b => a.k ≠ b.k := by
  have h1 : (its x).Pairwise fun a b => a.k ≠ b.k := hs.imp kne
  refine (List.Perm.pairwise_iff (fun h => Ne.symm h) (weave_perm _ _ ?_)).1 (by rw [← its_mk]; exact h1)
  rcases ok.okN.rows with ⟨h0, _⟩ | ⟨h0, _⟩
  · exact Or.inl h0
  · exact Or.inr h0
theorem rep_set {es : List It} (hs : es.Pairwise fun a b => a.k ≠ b.k) {e : It} {k : Nat} (hk : k < es.length) (he : es[k].k = e.k) : es.map (rep e) = es.set k e := by
  refine List.ext_getElem (by simp) fun i h1 h2 => ?_
  rw [List.length_map] at h1
  rw [List.getElem_map, List.getElem_set]
  by_cases q : k = i
  · subst q
    rw [if_pos rfl]
    exact if_pos he
  · rw [if_neg q]
    rw [List.pairwise_iff_getElem] at hs
    refine rep_ne fun q1 => ?_
    rcases Nat.lt_or_ge i k with h3 | h3
    · exact hs i k h1 hk h3 (q1.trans he.symm)
    · exact hs k i hk h1 (by omega) (he.trans q1.symm)
theorem map_its_id {e : It} {t d : Nat} {l : List (Bt d)} (ok : ∀ k ∈ l, Ok t k) (h : ∀ a ∈ (l.map its).flatten, a.k ≠ e.k) : l.map (mapB (rep e)) = l :=
  (List.map_congr_left fun k hk => (mapB_id (ok k hk) fun a ha => rep_ne (h a (List.mem_flatten.2 ⟨its k, List.mem_map.2 ⟨k, hk, rfl⟩, ha⟩)) : mapB (rep e) k = id k)).trans (List.map_id _)
structure RepAt (S : St) (o : Nat → Nat) (t : Nat) {d : Nat} (x : Bt d) (e e0 : It) (g : Nat) (n : BN) (k : Nat) : Prop where
  find : findB e.k (its x) = some e0
  key : n.keys[k]? = some e0.kh
  val : n.vals[k]? = some e0.vh
  mem : g ∈ nodes x
  bnok : BnOk t (setN n k e)
  words : ∀ v ∈ bnWords t (setN n k e), v < 18446744073709551616
  len : reco S g = some (bnWords t n)
  fit : Fit (putWords S g 0 (bnWords t (setN n k e))) o
  at' : At (putWords S g 0 (bnWords t (setN n k e))) t (mapB (rep e) x)
  fr : ∀ z, z ≠ g → reco (putWords S g 0 (bnWords t (setN n k e))) z = reco S z
  grew : Grew S (putWords S g 0 (bnWords t (setN n k e))) 0 0
theorem rep_here {S : St} {o : Nat → Nat} {t d : Nat} {x : Bt (d + 1)} {e : It} (he : e.kh < 18446744073709551616 ∧ e.vh < 18446744073709551616) (hx : Walk S o t x) (hn : (nodes x).Nodup) (hb : ItLt (its x)) (h : hereB e.k (Bn.es x) = true) :
    ∃ e0, RepAt S o t x e e0 (hd x) (bn x) (belowB e.k (Bn.es x)) := by
  obtain ⟨hk, hek⟩ := hereB_true h
  have ka := keys_apart hx.ok hx.sorted
  obtain ⟨k1, k2, k3⟩ := List.pairwise_append.1 ka
  have hset := rep_set k1 hk hek
  have hkids : (Bn.ks x).map (mapB (rep e)) = Bn.ks x := map_its_id (fun k hk => (hx.ok.2.2 k hk).1) fun a ha q => k3 _ (List.getElem_mem hk) a ha (hek.trans q.symm)
  have hlen : (its (mapB (rep e) x)).length = (its x).length := by rw [mapB_its, List.length_map]
  have hbn : bn (mapB (rep e) x) = setN (bn x) (belowB e.k (Bn.es x)) e := by
    have e1 : Bn.es (mapB (rep e) x) = (Bn.es x).set (belowB e.k (Bn.es x)) e := hset
    have e2 : Bn.ks (mapB (rep e) x) = Bn.ks x := hkids
    unfold bn setN
    rw [e1, e2, hlen, List.map_set, List.map_set]
  have hmem : ∀ a ∈ Bn.es (mapB (rep e) x), a.kh < 18446744073709551616 ∧ a.vh < 18446744073709551616 := fun a ha => by
    have e1 : Bn.es (mapB (rep e) x) = (Bn.es x).set (belowB e.k (Bn.es x)) e := hset
    rw [e1] at ha
    rcases List.mem_or_eq_of_mem_set ha with q | rfl
    · exact hb a (es_its hx.ok.okN q)
    · exact he
  have hka : ∀ k ∈ Bn.ks (mapB (rep e) x), At S t k := fun k hk => by
    have e2 : Bn.ks (mapB (rep e) x) = Bn.ks x := hkids
    rw [e2] at hk
    exact hx.at'.2 k hk
  have hbl := bnLt_of (x := mapB (rep e) x) hx.fit hmem hka (by rw [hlen]; have := hx.few; omega)
  have hnk : ∀ k ∈ Bn.ks (mapB (rep e) x), hd (mapB (rep e) x) ∉ nodes k := hd_kids (by rw [mapB_nodes]; exact hn)
  have hel : (Bn.es (mapB (rep e) x)).length ≤ 31 := by
    show ((Bn.es x).map (rep e)).length ≤ 31
    rw [List.length_map]
    exact hx.es.2.2
  have hwl : (bnWords t (bn x)).length = 6 * t := bnWords_length ..
  have hp := put_node (x := mapB (rep e) x) hx.fit hka hnk (ws := bnWords t (bn x)) hx.at'.1 hwl hbl (by omega)
  have hok := hx.at'.bnok hx.fit hx.t1 hx.t2 hx.ok
  have hww := bnWords_lt (t := t) hbl (by unfold bn; rw [List.length_map]; omega)
  rw [hbn, mapB_hd] at hp
  rw [hbn] at hww
  obtain ⟨p1, p2, p3, p4⟩ := hp
  have hfind : findB e.k (its x) = some (Bn.es x)[belowB e.k (Bn.es x)] := by
    have hsx := hx.sorted
    rw [its_mk] at hsx ⊢
    rcases hx.ok.okN.rows with ⟨h0, _⟩ | ⟨h0, _⟩
    · rw [h0, weave_leaf] at hsx ⊢
      exact leaf_here hsx hk hek
    · exact ((ord_of h0 hsx).here hk hek).1
  exact ⟨(Bn.es x)[belowB e.k (Bn.es x)], hfind, by unfold bn; simp [List.getElem?_eq_getElem hk], by unfold bn; simp [List.getElem?_eq_getElem hk], hd_mem x, ⟨hok.lo, hok.hi, by unfold setN; rw [List.length_set]; exact hok.many, by unfold setN; rw [List.length_set, List.length_set]; exact hok.vals, by unfold setN; rw [List.length_set]; exact hok.kids⟩, hww, hx.at'.1, p1, p2, p3, p4⟩
theorem rep_at {S : St} {o : Nat → Nat} {t : Nat} {e : It} (he : e.kh < 18446744073709551616 ∧ e.vh < 18446744073709551616) {g : Nat} {n : BN} {k : Nat} :
    ∀ {d : Nat} {x : Bt d}, Walk S o t x → (nodes x).Nodup → ItLt (its x) → nodeB e.k x = some (g, n, k) → ∃ e0, RepAt S o t x e e0 g n k
  | 0, x, _, _, _, _ => nomatch x
  | d + 1, x, hx, hn, hb, hnb => by
    cases hh : hereB e.k (Bn.es x) with
    | true =>
      rw [nodeB_here hh] at hnb
      cases hnb
      exact rep_here he hx hn hb hh
    | false =>
      cases hj : (Bn.ks x)[belowB e.k (Bn.es x)]? with
      | none =>
        rw [nodeB_none hh hj] at hnb
        cases hnb
      | some c =>
        rw [nodeB_down hh hj] at hnb
        obtain ⟨hjl, hjc⟩ := List.getElem?_eq_some_iff.1 hj
        have hcm : c ∈ Bn.ks x := by rw [← hjc]; exact List.getElem_mem _
        have hnod : ((Bn.ks x).map nodes).flatten.Nodup := (List.nodup_cons.1 hn).2
        have hnc : (nodes c).Nodup := (List.pairwise_flatten.1 hnod).1 _ (List.mem_map.2 ⟨c, hcm, rfl⟩)
        obtain ⟨e0, r⟩ := rep_at he (hx.kid hcm) hnc (fun a ha => hb a (kid_its hx.ok.okN hcm ha)) hnb
        have hgx : g ∈ nodes x := mem_nodes_kid hcm r.mem
        have hgh : hd x ≠ g := fun q => hd_kids hn c hcm (q ▸ r.mem)
        have ka := keys_apart hx.ok hx.sorted
        obtain ⟨k1, k2, k3⟩ := List.pairwise_append.1 ka
        obtain ⟨f1, f2⟩ : e0 ∈ its c ∧ e0.k = e.k := by
          have := r.find
          unfold findB at this
          exact ⟨List.mem_of_find?_eq_some this, by simpa using List.find?_some this⟩
        have hes : (Bn.es x).map (rep e) = Bn.es x := (List.map_congr_left fun a ha => (rep_ne fun q => k3 a ha e0 (List.mem_flatten.2 ⟨its c, List.mem_map.2 ⟨c, hcm, rfl⟩, f1⟩) (q.trans f2.symm) : rep e a = id a)).trans (List.map_id _)
        have hlen : (its (mapB (rep e) x)).length = (its x).length := by rw [mapB_its, List.length_map]
        have hbn : bn (mapB (rep e) x) = bn x := by
          have e1 : Bn.es (mapB (rep e) x) = Bn.es x := hes
          have e2 : (Bn.ks (mapB (rep e) x)).map hd = (Bn.ks x).map hd := by
            show ((Bn.ks x).map (mapB (rep e))).map hd = _
            rw [List.map_map]
            exact List.map_congr_left fun k _ => mapB_hd (rep e) k
          unfold bn
          rw [e1, e2, hlen]
        refine ⟨e0, ?_, r.key, r.val, hgx, r.bnok, r.words, r.len, r.fit, ⟨?_, fun k hk => ?_⟩, r.fr, r.grew⟩
        · have hsx := hx.sorted
          rw [its_mk] at hsx ⊢
          rcases hx.ok.okN.rows with ⟨h0, _⟩ | ⟨h0, _⟩
          · rw [List.map_eq_nil_iff] at h0
            rw [h0] at hj
            cases hj
          · rw [(ord_of h0 hsx).down (hereB_false hh)]
            have hjl2 : belowB e.k (Bn.es x) < ((Bn.ks x).map its).length := by rw [List.length_map]; exact hjl
            have : ((Bn.ks x).map its).getD (belowB e.k (Bn.es x)) [] = its c := by rw [getD_its hjl, hjc]
            rw [this]
            exact r.find
        · show reco _ (Bn.h x) = some (bnWords t (bn (mapB (rep e) x)))
          rw [hbn]
          exact (r.fr _ hgh).trans hx.at'.1
        · have hk : k ∈ (Bn.ks x).map (mapB (rep e)) := hk
          obtain ⟨c', hc', rfl⟩ := List.mem_map.1 hk
          obtain ⟨i, hi, hic⟩ := List.mem_iff_getElem.1 hc'
          by_cases q : i = belowB e.k (Bn.es x)
          · subst q
            have : c' = c := hic.symm.trans hjc
            rw [this]
            exact r.at'
          · have hi1 : i < ((Bn.ks x).map its).length := by rw [List.length_map]; exact hi
            have hj1 : belowB e.k (Bn.es x) < ((Bn.ks x).map its).length := by rw [List.length_map]; exact hjl
            have hi2 : i < ((Bn.ks x).map nodes).length := by rw [List.length_map]; exact hi
            have hj2 : belowB e.k (Bn.es x) < ((Bn.ks x).map nodes).length := by rw [List.length_map]; exact hjl
            have hz : ∀ a ∈ its c', a.k ≠ e.k := fun a ha q1 => by
              rcases Nat.lt_or_ge i (belowB e.k (Bn.es x)) with h3 | h3
              · exact flat_apart k2 hi1 hj1 h3 a (by rw [List.getElem_map, hic]; exact ha) e0 (by rw [List.getElem_map, hjc]; exact f1) (q1.trans f2.symm)
              · exact flat_apart k2 hj1 hi1 (by omega) e0 (by rw [List.getElem_map, hjc]; exact f1) a (by rw [List.getElem_map, hic]; exact ha) (f2.trans q1.symm)
            rw [mapB_id (hx.ok.2.2 c' hc').1 fun a ha => rep_ne (hz a ha)]
            refine (hx.at'.2 c' hc').frame fun z hz1 => r.fr z fun q1 => ?_
            rcases Nat.lt_or_ge i (belowB e.k (Bn.es x)) with h3 | h3
            · exact flat_apart hnod hi2 hj2 h3 z (by rw [List.getElem_map, hic]; exact hz1) g (by rw [List.getElem_map, hjc]; exact r.mem) q1
            · exact flat_apart hnod hj2 hi2 (by omega) g (by rw [List.getElem_map, hjc]; exact r.mem) z (by rw [List.getElem_map, hic]; exact hz1) q1.symm
theorem nodeB_some {S : St} {o : Nat → Nat} {t : Nat} {key : List UInt8} : ∀ {d : Nat} {x : Bt d}, Walk S o t x → (findB key (its x)).isSome = true → ∃ r, nodeB key x = some r
  | 0, x, _, _ => nomatch x
  | d + 1, x, hx, hf => by
    cases hh : hereB key (Bn.es x) with
    | true => exact ⟨_, nodeB_here hh⟩
    | false =>
      have hsx := hx.sorted
      rw [its_mk] at hsx hf
      rcases hx.ok.okN.rows with ⟨h0, _⟩ | ⟨h0, _⟩
      · rw [h0, weave_leaf] at hsx hf
        rw [findB_none (leaf_find hsx (hereB_false hh))] at hf
        cases hf
      · rw [(ord_of h0 hsx).down (hereB_false hh)] at hf
        have hle := below_le (key := key) (Bn.es x)
        have hjl : belowB key (Bn.es x) < (Bn.ks x).length := by rw [List.length_map] at h0; omega
        rw [getD_its hjl] at hf
        obtain ⟨r, hr⟩ := nodeB_some (hx.kid (List.getElem_mem hjl)) hf
        exact ⟨r, (nodeB_down hh (List.getElem?_eq_getElem hjl)).trans hr⟩
end Bt
end Go.Proofs.YtepdkbmnkjfcpaaGreatDoor
