/- B-trees in a store, as wholes: an item more at the root: plain. A region that draws its order, walked by a plan: where two or three operations may come, each is walked. -/
import Derived.Test.YtepdkbmnkjfcpaaGreatDoorVbe
import Derived.Test.YtepdkbmnkjfcpaaGreatDoorVal
set_option maxRecDepth 100000
namespace Go.Proofs.YtepdkbmnkjfcpaaGreatDoor
open Lf Tr
def blobH (l : List It) : List Nat := l.flatMap fun d => [d.kh, d.vh]
theorem mem_blobH {l : List It} {y : Nat} : y ∈ blobH l ↔ ∃ d ∈ l, y = d.kh ∨ y = d.vh := by
  unfold blobH
  simp [List.mem_flatMap]
theorem blobH_append (a b : List It) : blobH (a ++ b) = blobH a ++ blobH b := by unfold blobH; exact List.flatMap_append
namespace Bt
structure Tree (S : St) (o : Nat → Nat) (t : Nat) {d : Nat} (x : Bt (d + 1)) : Prop where
  fit : Fit S o
  t1 : 2 ≤ t
  t2 : t ≤ 16
  at' : At S t x
  ok : Ok t x
  sorted : (its x).Pairwise klt
  blobs : ∀ a ∈ its x, Blobs S a
  few : (its x).length < 1000000
  nodes : (nodes x).Nodup
  texts : (blobH (its x)).Nodup
  apart : ∀ h ∈ Bt.nodes x, h ∉ blobH (its x)
  pos : 1 ≤ nk x
variable {S S' : St} {o o' : Nat → Nat} {t d : Nat} {x : Bt (d + 1)}
theorem Tree.walk (h : Tree S o t x) : Walk S o t x :=
  ⟨h.fit, h.t1, h.t2, h.at', h.ok, h.sorted, ⟨fun a ha => (blobs_lt h.fit (h.blobs a ha)).1, fun a ha => getBlob_look h.fit (h.blobs a ha).lk (h.blobs a ha).k⟩, h.few⟩
theorem Tree.lts (h : Tree S o t x) : ItLt (its x) := fun a ha => blobs_lt h.fit (h.blobs a ha)
theorem Tree.low (h : Tree S o t x) : d < 19 := by
  have h1 := pow_le t h.t1 h.ok h.pos
  have h2 := h.few
  rcases Nat.lt_or_ge d 19 with h3 | h3
  · exact h3
  · have : 2 ^ 20 ≤ 2 ^ (d + 1) := Nat.pow_le_pow_right (by decide) (by omega)
    have e : 2 ^ 20 = 1048576 := by decide
    omega
def recs (x : Bt (d + 1)) : List Nat := Bt.nodes x ++ blobH (its x)
theorem Tree.has (h : Tree S o t x) : ∀ y ∈ recs x, reco S y ≠ none := fun y hy q => by
  rcases List.mem_append.1 hy with hy | hy
  · obtain ⟨n, e⟩ := h.at'.rec y hy
    rw [q] at e; cases e
  · obtain ⟨a, ha, e⟩ := mem_blobH.1 hy
    have hb := h.blobs a ha
    rcases e with rfl | rfl
    · have := hb.k; rw [q] at this; cases this
    · have := hb.v; rw [q] at this; cases this
theorem Tree.frame (h : Tree S o t x) (hf : Fit S' o') (hs : ∀ y ∈ recs x, reco S' y = reco S y) : Tree S' o' t x :=
  ⟨hf, h.t1, h.t2, h.at'.frame fun y hy => hs y (List.mem_append_left _ hy), h.ok, h.sorted, fun a ha => (h.blobs a ha).frame (hs _ (List.mem_append_right _ (mem_blobH.2 ⟨a, ha, Or.inl rfl⟩))) (hs _ (List.mem_append_right _ (mem_blobH.2 ⟨a, ha, Or.inr rfl⟩))), h.few, h.nodes, h.texts, h.apart, h.pos⟩
theorem blobH_ins {e : It} : ∀ {l : List It}, ∀ y, y ∈ blobH (insB e l) ↔ y = e.kh ∨ y = e.vh ∨ y ∈ blobH l := fun {l} y => by
  constructor
  · intro hy
    obtain ⟨a, ha, q⟩ := mem_blobH.1 hy
    rcases insB_mem.1 ha with rfl | ha
    · rcases q with q | q
      · exact Or.inl q
      · exact Or.inr (Or.inl q)
    · exact Or.inr (Or.inr (mem_blobH.2 ⟨a, ha, q⟩))
  · rintro (q | q | hy)
    · exact mem_blobH.2 ⟨e, insB_mem.2 (Or.inl rfl), Or.inl q⟩
    · exact mem_blobH.2 ⟨e, insB_mem.2 (Or.inl rfl), Or.inr q⟩
    · obtain ⟨a, ha, q⟩ := mem_blobH.1 hy
      exact mem_blobH.2 ⟨a, insB_mem.2 (Or.inr ha), q⟩
theorem blobH_perm {e : It} {l : List It} : (blobH (insB e l)).Perm (e.kh :: e.vh :: blobH l) := by
  have h : (insB e l).Perm (e :: l) := by
    unfold insB
    refine List.perm_middle.trans ?_
    rw [List.take_append_drop]
  unfold blobH
  exact h.flatMap_right _
structure New (S : St) (x : Bt (d + 1)) (e : It) : Prop where
  blobs : Blobs S e
  ne : e.kh ≠ e.vh
  off : e.kh ∉ recs x ∧ e.vh ∉ recs x
  key : ∀ a ∈ its x, a.k ≠ e.k
  few : (its x).length + 1 < 1000000
theorem New.texts {e : It} (n : New S x e) (h : Tree S o t x) {L : List Nat} (hL : ∀ y ∈ L, reco S y = none) : (blobH (insB e (its x))).Nodup ∧ ∀ y ∈ blobH (insB e (its x)), y ∉ Bt.nodes x ∧ y ∉ L := by
  refine ⟨blobH_perm.nodup_iff.2 (List.nodup_cons.2 ⟨fun hm => ?_, List.nodup_cons.2 ⟨fun hm => n.off.2 (List.mem_append_right _ hm), h.texts⟩⟩), fun y hy => ?_⟩
  · rcases List.mem_cons.1 hm with q | hm
    · exact n.ne q
    · exact n.off.1 (List.mem_append_right _ hm)
  · have hk : reco S y ≠ none := by
      intro q
      obtain ⟨a, ha, e1⟩ := mem_blobH.1 hy
      have hb : Blobs S a := by
        rcases insB_mem.1 ha with rfl | ha
        · exact n.blobs
        · exact h.blobs a ha
      rcases e1 with rfl | rfl
      · have := hb.k; rw [q] at this; cases this
      · have := hb.v; rw [q] at this; cases this
    refine ⟨fun hm => ?_, fun hm => hk (hL y hm)⟩
    rcases (blobH_ins y).1 hy with q | q | hb
    · exact n.off.1 (q ▸ List.mem_append_left _ hm)
    · exact n.off.2 (q ▸ List.mem_append_left _ hm)
    · exact h.apart y hm hb
theorem New.stay {e : It} (n : New S x e) (h : Tree S o t x) {L : List Nat} (hL : ∀ y ∈ L, reco S y = none) (hS : ∀ y, y ∉ Bt.nodes x → y ∉ L → reco S' y = reco S y) : ∀ a ∈ insB e (its x), Blobs S' a := fun a ha => by
  have hb : Blobs S a := by
    rcases insB_mem.1 ha with rfl | ha
    · exact n.blobs
    · exact h.blobs a ha
  have hd := (n.texts h hL).2
  have h1 := hd a.kh (mem_blobH.2 ⟨a, ha, Or.inl rfl⟩)
  have h2 := hd a.vh (mem_blobH.2 ⟨a, ha, Or.inr rfl⟩)
  exact hb.frame (hS _ h1.1 h1.2) (hS _ h2.1 h2.2)
theorem Tree.insert_none (h : Tree S o t x) {e : It} (n : New S x e) {S1 S2 : St} {o1 : Nat → Nat} {L U : List Nat} (hL : ∀ y ∈ L, reco S y = none) (h1 : ∀ y, y ∉ L → reco S1 y = reco S y) (hU : ∀ y ∈ U, y ∈ L) (p : Put S1 S2 o1 t x e U none) :
    ∃ y : Bt (d + 1), hd y = hd x ∧ Tree S2 o1 t y ∧ its y = insB e (its x) ∧ (∀ z ∈ Bt.nodes y, z ∈ Bt.nodes x ∨ z ∈ U) := by
  obtain ⟨y, a1, a2, a3, a4, a5, a6, a7⟩ := p.res
  have hs : ∀ z, z ∉ Bt.nodes x → z ∉ L → reco S2 z = reco S z := fun z q1 q2 => (p.fr z q1 fun q => q2 (hU z q)).trans (h1 z q2)
  obtain ⟨t3, t4⟩ := n.texts h hL
  refine ⟨y, a1, ⟨p.fit, h.t1, h.t2, a2, a3, by rw [a5]; exact insB_sorted h.sorted n.key, by rw [a5]; exact n.stay h hL hs, by rw [a5, insB_length]; exact n.few, a6, by rw [a5]; exact t3, fun z hz hb => ?_, Nat.le_trans h.pos a4⟩, a5, a7⟩
  rw [a5] at hb
  rcases a7 z hz with q | q
  · exact (t4 z hb).1 q
  · exact (t4 z hb).2 (hU z q)
def rootOf (g : Nat) (m : It) (y1 y2 : Bt (d + 1)) : Bt (d + 2) := (⟨g, [m], [y1, y2]⟩ : Bn (Bt (d + 1)))
theorem rootOf_nodes (g : Nat) (m : It) (y1 y2 : Bt (d + 1)) : Bt.nodes (rootOf g m y1 y2) = g :: (Bt.nodes y1 ++ Bt.nodes y2) := by
  rw [nodes_mk]
  show g :: ([y1, y2].map Bt.nodes).flatten = _
  simp
theorem Tree.insert_root (h : Tree S o t x) {e : It} (n : New S x e) {S1 S2 : St} {o1 : Nat → Nat} {L U : List Nat} (hL : ∀ y ∈ L, reco S y = none) (h1 : ∀ y, y ∉ L → reco S1 y = reco S y) (hU : ∀ y ∈ U, y ∈ L) {m : It} {g : Nat} (p : Put S1 S2 o1 t x e U (some (m, g))) {r : Nat} (hr : r ∈ L) (hrU : r ∉ U) {ws : List Nat} (hw : reco S1 r = some ws) (hl : ws.length = 6 * t) :
    ∃ y1 y2 : Bt (d + 1), hd y1 = hd x ∧ hd y2 = g ∧ At S2 t y1 ∧ At S2 t y2 ∧ Ok t y1 ∧ Ok t y2 ∧ (its y1).length + (its y2).length + 1 < 1000000 ∧ Ok t (rootOf r m y1 y2) ∧ BnLt (bn (rootOf r m y1 y2)) ∧ (reco S2 r = some ws) ∧ Tree (putWords S2 r 0 (bnWords t (bn (rootOf r m y1 y2)))) o1 t (rootOf r m y1 y2) ∧ its (rootOf r m y1 y2) = insB e (its x) ∧ (∀ z ∈ Bt.nodes (rootOf r m y1 y2), z ∈ Bt.nodes x ∨ z ∈ L) ∧ (∀ z, z ≠ r → reco (putWords S2 r 0 (bnWords t (bn (rootOf r m y1 y2)))) z = reco S2 z) ∧ Grew S2 (putWords S2 r 0 (bnWords t (bn (rootOf r m y1 y2)))) 0 0 := by
  obtain ⟨y1, y2, a1, a2, a3, a4, a5, a6, a7, a8, a9, a10, a11⟩ := p.res
  have hrx : r ∉ Bt.nodes x := fun q => h.has r (List.mem_append_left _ q) (hL r hr)
  have hr2 : reco S2 r = some ws := (p.fr r hrx hrU).trans hw
  have hs : ∀ z, z ∉ Bt.nodes x → z ∉ L → reco S2 z = reco S z := fun z q1 q2 => (p.fr z q1 fun q => q2 (hU z q)).trans (h1 z q2)
  obtain ⟨t3, t4⟩ := n.texts h hL
  have hrn : r ∉ Bt.nodes y1 ++ Bt.nodes y2 := fun q => (a11 r q).elim hrx hrU
  have hits : its (rootOf r m y1 y2) = insB e (its x) := a9
  have t1 := h.t1
  have ok : Ok t (rootOf r m y1 y2) := by
    refine ⟨by show 1 ≤ 2 * t - 1; omega, by show 2 = if d + 1 = 0 then 0 else 1 + 1; rw [if_neg (by omega)], fun k hk => ?_⟩
    have hk : k ∈ [y1, y2] := hk
    rcases List.mem_cons.1 hk with rfl | hk
    · exact ⟨a5, by omega⟩
    · rw [List.mem_singleton.1 hk]
      exact ⟨a6, by omega⟩
  have hlen : (its y1).length + (its y2).length + 1 < 1000000 := by
    have e1 := congrArg List.length a9
    rw [List.length_append, List.length_cons, insB_length] at e1
    have := n.few
    omega
  have hkids : ∀ k ∈ Bn.ks (rootOf r m y1 y2), At S2 t k := fun k hk => by
    have hk : k ∈ [y1, y2] := hk
    rcases List.mem_cons.1 hk with rfl | hk
    · exact a3
    · rw [List.mem_singleton.1 hk]
      exact a4
  have hst := n.stay h hL hs
  have hbl : BnLt (bn (rootOf r m y1 y2)) := bnLt_of p.fit (fun a ha => blobs_lt p.fit (hst a (by rw [← hits]; exact es_its ok.okN ha))) hkids (by rw [hits, insB_length]; have := n.few; omega)
  have hnk : ∀ k ∈ Bn.ks (rootOf r m y1 y2), hd (rootOf r m y1 y2) ∉ Bt.nodes k := fun k hk q => by
    have hk : k ∈ [y1, y2] := hk
    have q : r ∈ Bt.nodes k := q
    rcases List.mem_cons.1 hk with rfl | hk
    · exact hrn (List.mem_append_left _ q)
    · rw [List.mem_singleton.1 hk] at q
      exact hrn (List.mem_append_right _ q)
  obtain ⟨p1, p2, p3, p4⟩ := put_node (x := rootOf r m y1 y2) p.fit hkids hnk (ws := ws) hr2 hl hbl (by show 1 < 1000; omega)
  have p3 : ∀ z, z ≠ r → reco (putWords S2 r 0 (bnWords t (bn (rootOf r m y1 y2)))) z = reco S2 z := p3
  have hnod : ∀ z ∈ Bt.nodes (rootOf r m y1 y2), z ∈ Bt.nodes x ∨ z ∈ L := fun z hz => by
    rw [rootOf_nodes] at hz
    rcases List.mem_cons.1 hz with rfl | hz
    · exact Or.inr hr
    · exact (a11 z hz).imp id (hU z)
  refine ⟨y1, y2, a1, a2, a3, a4, a5, a6, hlen, ok, hbl, hr2, ⟨p1, h.t1, h.t2, p2, ok, by rw [hits]; exact insB_sorted h.sorted n.key, ?_, by rw [hits, insB_length]; exact n.few, ?_, by rw [hits]; exact t3, fun z hz hb => ?_, Nat.le_refl 1⟩, hits, hnod, p3, p4⟩
  · rw [hits]
    intro a ha
    have h5 := t4 a.kh (mem_blobH.2 ⟨a, ha, Or.inl rfl⟩)
    have h6 := t4 a.vh (mem_blobH.2 ⟨a, ha, Or.inr rfl⟩)
    exact (hst a ha).frame (p3 _ fun q => h5.2 (q ▸ hr)) (p3 _ fun q => h6.2 (q ▸ hr))
  · rw [rootOf_nodes]
    exact List.nodup_cons.2 ⟨hrn, a10⟩
  · rw [hits] at hb
    rcases hnod z hz with q | q
    · exact (t4 z hb).1 q
    · exact (t4 z hb).2 q
end Bt
end Go.Proofs.YtepdkbmnkjfcpaaGreatDoor
namespace Go.Proofs.YtepdkbmnkjfcpaaGreatDoor.Qc
open Go Go.RowKit
inductive Plan where
  | nil
  | take (i : Nat) (p : Plan)
  | go (i : Nat) (p : Plan)
  | two (i j : Nat) (p q : Plan)
  | three (i j k : Nat) (p q r : Plan)
def Plan.len : Plan → Nat
  | .nil => 0
  | .take _ p => p.len + 1
  | .go _ p => p.len + 1
  | .two _ _ p _ => p.len + 1
  | .three _ _ _ p _ _ => p.len + 1
section
variable {P : Program} {l : List Oper} {md : Region.Mode} {S : World → Prop} {Q : Exit → Act → World → Prop}
def wpPlan (P : Program) (l : List Oper) (Q : Exit → Act → World → Prop) (S : World → Prop) : Plan → Act → World → Prop
  | .nil, a, w => Q .normal a w
  | .take i p, a, w => ∃ o, l[i]? = some o ∧ ∃ v, YieldsIf P l.toArray S o v a ∧ wpPlan P l Q S p (a.put o.dst v) w
  | .go i p, a, w => ∃ o, l[i]? = some o ∧ Region.wanted o (yielded l.toArray a.tmps) = true ∧ o.wp P a w (fun a' w' => S w' ∧ wpPlan P l Q S p a' w') Q
  | .two i j p q, a, w => (∃ o, l[i]? = some o ∧ Region.wanted o (yielded l.toArray a.tmps) = true ∧ o.wp P a w (fun a' w' => S w' ∧ wpPlan P l Q S p a' w') Q) ∧
      (∃ o, l[j]? = some o ∧ Region.wanted o (yielded l.toArray a.tmps) = true ∧ o.wp P a w (fun a' w' => S w' ∧ wpPlan P l Q S q a' w') Q)
  | .three i j k p q r, a, w => (∃ o, l[i]? = some o ∧ Region.wanted o (yielded l.toArray a.tmps) = true ∧ o.wp P a w (fun a' w' => S w' ∧ wpPlan P l Q S p a' w') Q) ∧
      (∃ o, l[j]? = some o ∧ Region.wanted o (yielded l.toArray a.tmps) = true ∧ o.wp P a w (fun a' w' => S w' ∧ wpPlan P l Q S q a' w') Q) ∧
      (∃ o, l[k]? = some o ∧ Region.wanted o (yielded l.toArray a.tmps) = true ∧ o.wp P a w (fun a' w' => S w' ∧ wpPlan P l Q S r a' w') Q)
def planB (md : Region.Mode) (ops : Array Oper) : Plan → Array Bool → Bool
  | .nil, listed => (Region.ready md ops listed).isEmpty
  | .take i p, listed => (Region.ready md ops listed).contains i && Region.free md ops listed i && planB md ops p (listed.setIfInBounds i true)
  | .go i p, listed => decide (Region.ready md ops listed = [i]) && planB md ops p (listed.setIfInBounds i true)
  | .two i j p q, listed => decide (Region.ready md ops listed = [i, j]) && decide (p.len = q.len) && planB md ops p (listed.setIfInBounds i true) && planB md ops q (listed.setIfInBounds j true)
  | .three i j k p q r, listed => decide (Region.ready md ops listed = [i, j, k]) && decide (p.len = q.len) && decide (p.len = r.len) && planB md ops p (listed.setIfInBounds i true) && planB md ops q (listed.setIfInBounds j true) && planB md ops r (listed.setIfInBounds k true)
theorem wpAnyH_plan (hsel : Region.noSelect l.toArray = true) (hQ : ∀ d v c a w, Q (.panic c) (Act.put a d v) w → Q (.panic c) a w) :
    ∀ (p : Plan) (listed : Array Bool) (a : Act) (w : World), planB md l.toArray p listed = true → S w → wpPlan P l Q S p a w → wpAnyH P md l.toArray Q S p.len listed a w
  | .nil, _, _, _, hB, _, h => ⟨by simpa [planB] using hB, h⟩
  | .take i p, listed, a, w, hB, hS, h => by
    simp only [planB, Bool.and_eq_true] at hB
    obtain ⟨⟨hr, hf⟩, hB'⟩ := hB
    obtain ⟨o, h0, v, hy, hK⟩ := h
    have h0' : l.toArray[i]? = some o := by simpa using h0
    exact wpAnyH_take h0' hsel hf hr (fun c a w => hQ _ _ c a w) hy hS (wpAnyH_plan hsel hQ p _ _ _ hB' hS hK)
  | .go j p, listed, a, w, hB, hS, h => by
    simp only [planB, Bool.and_eq_true, decide_eq_true_eq] at hB
    refine ⟨fun h1 => (by rw [hB.1] at h1; cases h1), fun i hi => ?_⟩
    rw [hB.1] at hi
    have hik : i = j := by simpa using hi
    subst hik
    have hrec := fun a' w' (hs : S w') (hq : wpPlan P l Q S p a' w') => wpAnyH_plan hsel hQ p (listed.setIfInBounds i true) a' w' hB.2 hs hq
    obtain ⟨o, h0, hw, hh⟩ := h
    have h0' : l.toArray[i]? = some o := by simpa using h0
    unfold wpOp
    simp only [h0', hw, if_true]
    exact .inl (Oper.wp_mono (fun a' w' h' => ⟨h'.1, hrec a' w' h'.1 h'.2⟩) hh)
  | .two i j p q, listed, a, w, hB, hS, h => by
    simp only [planB, Bool.and_eq_true, decide_eq_true_eq] at hB
    obtain ⟨⟨⟨hr, hlen⟩, hp⟩, hq⟩ := hB
    refine ⟨fun h1 => (by rw [hr] at h1; cases h1), fun k hk => ?_⟩
    rw [hr] at hk
    have hk' : k = i ∨ k = j := by simpa using hk
    rcases hk' with rfl | rfl
    · have hrec := fun a' w' (hs : S w') (hq' : wpPlan P l Q S p a' w') => wpAnyH_plan hsel hQ p (listed.setIfInBounds k true) a' w' hp hs hq'
      obtain ⟨o, h0, hw, hh⟩ := h.1
      have h0' : l.toArray[k]? = some o := by simpa using h0
      unfold wpOp
      simp only [h0', hw, if_true]
      exact .inl (Oper.wp_mono (fun a' w' h' => ⟨h'.1, hrec a' w' h'.1 h'.2⟩) hh)
    · have hrec := fun a' w' (hs : S w') (hq' : wpPlan P l Q S q a' w') => wpAnyH_plan hsel hQ q (listed.setIfInBounds k true) a' w' hq hs hq'
      rw [← hlen] at hrec
      obtain ⟨o, h0, hw, hh⟩ := h.2
      have h0' : l.toArray[k]? = some o := by simpa using h0
      unfold wpOp
      simp only [h0', hw, if_true]
      exact .inl (Oper.wp_mono (fun a' w' h' => ⟨h'.1, hrec a' w' h'.1 h'.2⟩) hh)
  | .three i j m p q r, listed, a, w, hB, hS, h => by
    simp only [planB, Bool.and_eq_true, decide_eq_true_eq] at hB
    obtain ⟨⟨⟨⟨⟨hr, hlen⟩, hlen2⟩, hp⟩, hq⟩, hr3⟩ := hB
    refine ⟨fun h1 => (by rw [hr] at h1; cases h1), fun k hk => ?_⟩
    rw [hr] at hk
    have hk' : k = i ∨ k = j ∨ k = m := by simpa using hk
    rcases hk' with rfl | rfl | rfl
    · have hrec := fun a' w' (hs : S w') (hq' : wpPlan P l Q S p a' w') => wpAnyH_plan hsel hQ p (listed.setIfInBounds k true) a' w' hp hs hq'
      obtain ⟨o, h0, hw, hh⟩ := h.1
      have h0' : l.toArray[k]? = some o := by simpa using h0
      unfold wpOp
      simp only [h0', hw, if_true]
      exact .inl (Oper.wp_mono (fun a' w' h' => ⟨h'.1, hrec a' w' h'.1 h'.2⟩) hh)
    · have hrec := fun a' w' (hs : S w') (hq' : wpPlan P l Q S q a' w') => wpAnyH_plan hsel hQ q (listed.setIfInBounds k true) a' w' hq hs hq'
      rw [← hlen] at hrec
      obtain ⟨o, h0, hw, hh⟩ := h.2.1
      have h0' : l.toArray[k]? = some o := by simpa using h0
      unfold wpOp
      simp only [h0', hw, if_true]
      exact .inl (Oper.wp_mono (fun a' w' h' => ⟨h'.1, hrec a' w' h'.1 h'.2⟩) hh)
    · have hrec := fun a' w' (hs : S w') (hq' : wpPlan P l Q S r a' w') => wpAnyH_plan hsel hQ r (listed.setIfInBounds k true) a' w' hr3 hs hq'
      rw [← hlen2] at hrec
      obtain ⟨o, h0, hw, hh⟩ := h.2.2
      have h0' : l.toArray[k]? = some o := by simpa using h0
      unfold wpOp
      simp only [h0', hw, if_true]
      exact .inl (Oper.wp_mono (fun a' w' h' => ⟨h'.1, hrec a' w' h'.1 h'.2⟩) hh)
def lexPlanB (md : Region.Mode) (ops : Array Oper) (p : Plan) : Bool :=
  Region.noSelect ops && decide (p.len = ops.size) && planB md ops p (Array.replicate ops.size false)
end
end Qc
theorem wp_region_plan3 {P : Program} {id : Nat} {Q : Exit → Act → World → Prop} {a : Act} {w : World} {l : List Oper} (I : World → Prop) (p : Qc.Plan) (hm : P.follows .mixedOrders = true) (hB : Qc.lexPlanB .any l.toArray p = true)
    (hI : I w.drew) (h : Qc.wpPlan P l (NoPanic Q) (InK I) p a w.drew) : (Code.region id l.toArray true).wp P Q a w := by
  simp only [Qc.lexPlanB, Bool.and_eq_true, decide_eq_true_eq] at hB
  obtain ⟨⟨hsel, hn⟩, hlex⟩ := hB
  have hS : InK I w.drew := ⟨⟨_, hI⟩, rfl⟩
  refine wp_region_noPanic (wp_region_held_drew (S := InK I) hm hS (fun _ => ?_))
  have := Qc.wpAnyH_plan (md := .any) (Q := NoPanic Q) hsel (fun _ _ _ _ _ h => (h : False).elim) p _ a w.drew hlex hS h
  rw [hn] at this
  exact this
theorem plan3_take {P : Program} {l : List Oper} {I : World → Prop} {Q : Exit → Act → World → Prop} {i : Nat} {p : Qc.Plan} {a : Act} {w : World} (o : Oper) (ho : l[i]? = some o) (v : Value) (hw : Region.wanted o (yielded l.toArray a.tmps) = true) (hr : ∀ w, InK I w → (execOp a.eval o).run P w = .ok (.value v) w)
    (h : Qc.wpPlan P l Q (InK I) p (a.put o.dst v) w) : Qc.wpPlan P l Q (InK I) (.take i p) a w := ⟨o, ho, v, Or.inl ⟨hw, hr⟩, h⟩
theorem plan3_do {P : Program} {l : List Oper} {Q : Exit → Act → World → Prop} {I : World → Prop} {i : Nat} {p : Qc.Plan} {a : Act} {w : World} (o : Oper) (ho : l[i]? = some o) (hw : Region.wanted o (yielded l.toArray a.tmps) = true)
    (h : ∀ K' : Act → World → Prop, Shut (∀ a w, I w → Qc.wpPlan P l Q (InK I) p a w → K' a w) → Oper.wp P o a w K' Q) : Qc.wpPlan P l Q (InK I) (.go i p) a w :=
  ⟨o, ho, hw, h _ (fun _ _ hI hs => ⟨⟨⟨_, hI⟩, rfl⟩, hs⟩)⟩
theorem plan3_two {P : Program} {l : List Oper} {Q : Exit → Act → World → Prop} {I : World → Prop} {i j : Nat} {p q : Qc.Plan} {a : Act} {w : World} (h1 : Qc.wpPlan P l Q (InK I) (.go i p) a w) (h2 : Qc.wpPlan P l Q (InK I) (.go j q) a w) : Qc.wpPlan P l Q (InK I) (.two i j p q) a w := ⟨h1, h2⟩
theorem plan3_three {P : Program} {l : List Oper} {Q : Exit → Act → World → Prop} {I : World → Prop} {i j k : Nat} {p q r : Qc.Plan} {a : Act} {w : World} (h1 : Qc.wpPlan P l Q (InK I) (.go i p) a w) (h2 : Qc.wpPlan P l Q (InK I) (.go j q) a w) (h3 : Qc.wpPlan P l Q (InK I) (.go k r) a w) : Qc.wpPlan P l Q (InK I) (.three i j k p q r) a w := ⟨h1, h2, h3⟩
theorem plan3_nil {P : Program} {l : List Oper} {Q : Exit → Act → World → Prop} {S : World → Prop} {a : Act} {w : World} (h : Q .normal a w) : Qc.wpPlan P l (NoPanic Q) S .nil a w := h
end Go.Proofs.YtepdkbmnkjfcpaaGreatDoor
