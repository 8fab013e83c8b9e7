import Derived.Test.YtcibkdbpicledaaGreatDoorWaq
set_option maxRecDepth 100000
namespace Go.Proofs.YtcibkdbpicledaaGreatDoor
open Lf
theorem SlabWF.rd_lt {s : Slab} (hw : SlabWF s) (a : Nat) : s.rd a < 18446744073709551616 := by
 by_cases hp : a / 64 ∈ s.keys
 · obtain ⟨l, h1, h2⟩ := page_some hp
   rw [rd_some h1]
   have hl := hw.len _ h2
   have hi : a % 64 < l.length := by simp only at hl; omega
   rw [List.getD_eq_getElem?_getD, List.getElem?_eq_getElem hi]
   exact hw.word _ h2 _ (List.getElem_mem hi)
 · rw [rd_none hp]; decide
theorem SlabWF.getH_lt {s : Slab} (hw : SlabWF s) (p : Nat) : (getH s p).w < 18446744073709551616 := hw.rd_lt _
theorem testBit_set {w k j : Nat} : (bitSet w k).testBit j = (w.testBit j || decide (k = j)) := by
 unfold bitSet; rw [Nat.testBit_or, Nat.testBit_two_pow]
theorem testBit_clear {w k j : Nat} (hk : k < 64) (hj : j < 64) : (bitClear w k).testBit j = (w.testBit j && !decide (k = j)) := by
 unfold bitClear
 have h2 : (2 : Nat) ^ k < 2 ^ 64 := Nat.pow_lt_pow_right (by decide) hk
 have h1 : (18446744073709551615 - 2 ^ k : Nat) = 2 ^ 64 - (2 ^ k + 1) := by
  have : (2 : Nat) ^ 64 = 18446744073709551616 := by decide
  omega
 rw [Nat.testBit_and, h1, Nat.testBit_two_pow_sub_succ h2, Nat.testBit_two_pow]
 simp [hj]
structure Took (s s' : Slab) (o o' : Nat → Nat) (a r : Nat) : Prop where
 own : Own s' o'
 pl : ∀ a0 r0, Place s' o' a0 r0 ↔ Place s o a0 r0 ∨ (a0 = a ∧ r0 = r)
 fresh : ∀ r0, ¬ Place s o a r0
 rd : ∀ a0 r0 b, Place s o a0 r0 → b < r0 → s'.rd (a0 + b) = s.rd (a0 + b)
 quota : s'.quota = s.quota
theorem placeH_inj {c k k' h : Nat} (hk : k < classSlots c) (hk' : k' < classSlots c) (e : placeH h c k = placeH h c k') : k = k' := by
 have hc := (slots_lt hk).1
 have h1 := slot_room hc hk h
 have h2 := slot_room hc hk' h
 refine Classical.byContradiction fun hn => ?_
 have := slot_apart (c := c) hn
 omega
theorem own_take {s : Slab} {o : Nat → Nat} (h : Own s o) {p k : Nat} (hp : p ∈ s.keys) (ho : o p = p) (hk1 : (getH s p).kind = 1) (hk : k < classSlots (getH s p).n) (hb : (getH s p).w.testBit k = false) :
 Took s (takeH s p k).2 o o (placeH p (getH s p).n k) (classSize (getH s p).n) ∧ (takeH s p k).2.pages.length = s.pages.length := by
 obtain ⟨x, hx⟩ : ∃ x, getH s p = x := ⟨_, rfl⟩
 have hd := (h.down p hp ho).1
 have hwx := h.wf.getH_lt p
 have hc := slots_lt hk
 rw [hx] at hk1 hk hb hd hwx hc ⊢
 obtain ⟨e1, e2, e3⟩ := slot_room hc.1 hk p
 obtain ⟨a, ha⟩ : ∃ a, placeH p x.n k = a := ⟨_, rfl⟩
 obtain ⟨r, hr⟩ : ∃ r, classSize x.n = r := ⟨_, rfl⟩
 obtain ⟨y, hy⟩ : ∃ y : Head, { x with w := bitSet x.w k } = y := ⟨_, rfl⟩
 have hy1 : y.kind = 1 := by rw [← hy]; exact hk1
 have hyn : y.n = x.n := by rw [← hy]
 have hyw : y.w = bitSet x.w k := by rw [← hy]
 have hys : y.kind < 256 ∧ y.n < 256 := by rw [hy1, hyn]; exact ⟨by decide, hd.small.2⟩
 have hywl : y.w < 18446744073709551616 := by rw [hyw]; exact bitSet_lt hwx (by omega)
 have hs : (takeH s p k).2 = (putH s p y).zero a r := by
  unfold takeH clearH
  simp only [hx, hy, ha, hr]
 rw [ha, hr, hs]
 rw [ha] at e1
 rw [hr] at e1 e2 e3
 have hw1 : SlabWF (putH s p y) := putH_wf h.wf p hys.1 hys.2 hywl
 have hw' : SlabWF ((putH s p y).zero a r) := zero_wf hw1 a r
 have hkeys : ((putH s p y).zero a r).keys = s.keys := by rw [zero_keys, putH_keys]
 have hrd : ∀ b, (b < a ∨ a + r ≤ b) → b ≠ p * 64 → b ≠ p * 64 + 1 → ((putH s p y).zero a r).rd b = s.rd b := fun b h1 h2 h3 => by rw [zero_rd _ _ _ h1, putH_rd p y h2 h3]
 have hgp : getH ((putH s p y).zero a r) p = y := by
  rw [getH_congr (s := putH s p y) (fun b h1 h2 => zero_rd _ _ _ (by omega))]
  exact putH_get h.wf hp hys.1 hys.2
 have hgq : ∀ q, q ≠ p → getH ((putH s p y).zero a r) q = getH s q := fun q hq => getH_congr fun b h1 h2 => hrd b (by omega) (by omega) (by omega)
 have hown : Own ((putH s p y).zero a r) o := by
  refine ⟨hw', ?_, ?_⟩
  · intro q hq
    rw [hkeys] at hq ⊢
    have := h.up q hq
    by_cases e : o q = p
    · rw [e, hgp]
      rw [e, hx] at this
      refine ⟨this.1, this.2.1, this.2.2.1, ?_⟩
      have h4 := this.2.2.2
      unfold spanH at h4 ⊢
      rw [hy1]
      rw [hk1] at h4
      exact h4
    · rw [hgq _ e]; exact this
  · intro q hq hoq
    rw [hkeys] at hq ⊢
    have := h.down q hq hoq
    by_cases e : q = p
    · subst e
      rw [hgp]
      rw [hx] at this
      refine ⟨Or.inl ⟨hy1, by rw [hyn]; exact hc.1⟩, fun j hj => this.2 j ?_⟩
      unfold spanH at hj ⊢
      rw [hy1] at hj
      rw [hk1]
      exact hj
    · rw [hgq _ e]; exact this
 have hpl : ∀ a0 r0, Place ((putH s p y).zero a r) o a0 r0 ↔ Place s o a0 r0 ∨ (a0 = a ∧ r0 = r) := by
  intro a0 r0
  constructor
  · rintro ⟨h0, g1, g2, g3⟩
    rw [hkeys] at g1
    by_cases e : h0 = p
    · subst e
      rw [hgp] at g3
      rcases g3 with ⟨f1, k', f2, f3, f4, f5⟩ | ⟨f1, _⟩
      · rw [hyw, testBit_set] at f3
        rw [hyn] at f2 f4 f5
        by_cases ek : k = k'
        · subst ek; right; exact ⟨f4.trans ha, f5.trans hr⟩
        · left
          refine ⟨h0, g1, g2, Or.inl ⟨by rw [hx]; exact hk1, k', by rw [hx]; exact f2, ?_, by rw [hx]; exact f4, by rw [hx]; exact f5⟩⟩
          rw [hx]
          simpa [ek] using f3
      · omega
    · rw [hgq _ e] at g3
      exact Or.inl ⟨h0, g1, g2, g3⟩
  · rintro (⟨h0, g1, g2, g3⟩ | ⟨rfl, rfl⟩)
    · refine ⟨h0, by rw [hkeys]; exact g1, g2, ?_⟩
      by_cases e : h0 = p
      · subst e
        rw [hgp]
        rw [hx] at g3
        rcases g3 with ⟨f1, k', f2, f3, f4, f5⟩ | ⟨f1, _⟩
        · exact Or.inl ⟨hy1, k', by rw [hyn]; exact f2, by rw [hyw, testBit_set, f3]; rfl, by rw [hyn]; exact f4, by rw [hyn]; exact f5⟩
        · omega
      · rw [hgq _ e]; exact g3
    · refine ⟨p, by rw [hkeys]; exact hp, ho, ?_⟩
      rw [hgp]
      exact Or.inl ⟨hy1, k, by rw [hyn]; exact hk, by rw [hyw, testBit_set]; simp, by rw [hyn]; exact ha.symm, by rw [hyn]; exact hr.symm⟩
 have hfr : ∀ r0, ¬ Place s o a r0 := by
  rintro r0 ⟨h0, hq⟩
  have hh0 := (hq.pos h).2.1
  have : h0 = p := by omega
  subst this
  have g3 := hq.2.2
  rw [hx] at g3
  rcases g3 with ⟨f1, k', f2, f3, f4, f5⟩ | ⟨f1, _⟩
  · have := placeH_inj hk f2 (ha.trans f4)
    subst this
    rw [hb] at f3
    cases f3
  · omega
 refine ⟨⟨hown, hpl, hfr, ?_, ?_⟩, ?_⟩
 · intro a0 r0 b hq hbr
   have hap := Place.apart hown ((hpl a0 r0).2 (Or.inl hq)) ((hpl a r).2 (Or.inr ⟨rfl, rfl⟩))
   have hne : ¬ a0 = a := by rintro rfl; exact hfr _ hq
   obtain ⟨h0, hq⟩ := hq
   have hh := fun e => hq.not_head h (b := b) hbr ho e
   refine hrd _ (by omega) ?_ ?_
   · intro e; have := hh (by omega); omega
   · intro e; have := hh (by omega); omega
 · rw [zero_quota, putH_quota]
 · rw [zero_length, putH_length]
theorem grant_run {s : Slab} (hw : SlabWF s) {n : Nat} (h1 : 1 ≤ n) (h2 : n ≤ 100) (h3 : (s.pages.length + n) * 64 ≤ s.quota) : ∃ p, s.grant n = ((p, 0), s.addRun p n) ∧ p ≤ 409601 ∧ ∀ k, k < n → p + k ∉ s.keys := by
 obtain ⟨t, _, ht, hf⟩ := free_window n s.pages.length s.keys (by rw [keys_length]; exact Nat.le_refl _) 0
 have hrun : s.run n t = true := run_iff.2 hf
 obtain ⟨t', h4, h5, h6⟩ := least_run t hrun
 have he := firstRun_eq h5 (s.pages.length * n + 1) 0 (Nat.zero_le _) (by omega) fun g _ hg => h6 g hg
 have hg : s.grant n = ((t', 0), s.addRun t' n) := by
  unfold Slab.grant
  rw [if_neg (by omega), if_neg (by omega)]
  simp only [he]
 have hle := grant_le hw h2
 rw [hg] at hle
 exact ⟨t', hg, hle, run_iff.1 h5⟩
theorem own_more {s : Slab} {o : Nat → Nat} (h : Own s o) {p n : Nat} {x : Head} (hx : HeadOk x) (hxn : spanH x = n) (hxw : x.w < 18446744073709551616) (hfree : ∀ k, k < n → p + k ∉ s.keys) (hp : p + n ≤ 1048576) (hr : (s.pages.length + n) * 64 ≤ s.quota) :
 ∃ o', Own (putH (s.addRun p n) p x) o' ∧ o' p = p ∧ p ∈ (putH (s.addRun p n) p x).keys ∧ getH (putH (s.addRun p n) p x) p = x ∧
  (∀ a r, Place (putH (s.addRun p n) p x) o' a r ↔ Place s o a r ∨ BlkOf x p a r) ∧ (∀ a r b, Place s o a r → b < r → (putH (s.addRun p n) p x).rd (a + b) = s.rd (a + b)) := by
 have hn1 : 1 ≤ n := by
  rw [← hxn]; unfold spanH
  rcases hx with hx | hx
  · rw [if_neg (by omega)]; exact Nat.le_refl _
  · rw [if_pos hx.1]; exact hx.2.1
 have hw1 : SlabWF (s.addRun p n) := addRun_wf h.wf n hfree hp hr
 obtain ⟨hsm1, hsm2⟩ := hx.small
 have hw' : SlabWF (putH (s.addRun p n) p x) := putH_wf hw1 p hsm1 hsm2 hxw
 have hkeys : ∀ q, q ∈ (putH (s.addRun p n) p x).keys ↔ q ∈ s.keys ∨ (p ≤ q ∧ q < p + n) := fun q => by rw [putH_keys, addRun_keys]
 have hpk : p ∈ (putH (s.addRun p n) p x).keys := (hkeys p).2 (Or.inr (by omega))
 have hgp : getH (putH (s.addRun p n) p x) p = x := putH_get hw1 (by rw [← putH_keys (s.addRun p n) p x]; exact hpk) hsm1 hsm2
 have hrd : ∀ b, (b / 64 < p ∨ p + n ≤ b / 64) → (putH (s.addRun p n) p x).rd b = s.rd b := fun b hb => by
  rw [putH_rd p x (by omega) (by omega), addRun_rd s p n hb]
 have hnot : ∀ q, q ∈ s.keys → q < p ∨ p + n ≤ q := fun q hq => by
  refine Classical.byContradiction fun hc => ?_
  have := hfree (q - p) (by omega)
  rw [show p + (q - p) = q by omega] at this
  exact this hq
 have hgq : ∀ q, q ∈ s.keys → getH (putH (s.addRun p n) p x) q = getH s q := fun q hq => getH_congr fun b h1 h2 => hrd b (by rw [h1]; exact hnot q hq)
 have hoin : ∀ q, q ∈ s.keys → (if p ≤ q ∧ q < p + n then p else o q) = o q := fun q hq => if_neg (by have := hnot q hq; omega)
 have hown : Own (putH (s.addRun p n) p x) (fun q => if p ≤ q ∧ q < p + n then p else o q) := by
  refine ⟨hw', ?_, ?_⟩
  · intro q hq
    rcases (hkeys q).1 hq with hq | hq
    · have := h.up q hq
      simp only [hoin q hq, hoin _ this.1]
      rw [hgq _ this.1]
      exact ⟨(hkeys _).2 (Or.inl this.1), this.2⟩
    · have e1 : (if p ≤ q ∧ q < p + n then p else o q) = p := if_pos hq
      have e2 : (if p ≤ p ∧ p < p + n then p else o p) = p := if_pos (by omega)
      simp only [e1, e2]
      rw [hgp, hxn]
      exact ⟨hpk, trivial, hq.1, hq.2⟩
  · intro q hq hoq
    rcases (hkeys q).1 hq with hq | hq
    · rw [hoin q hq] at hoq
      rw [hgq q hq]
      have := h.down q hq hoq
      refine ⟨this.1, fun k hk => ?_⟩
      have h3 := this.2 k hk
      simp only [hoin _ h3.1]
      exact ⟨(hkeys _).2 (Or.inl h3.1), h3.2⟩
    · rw [if_pos hq] at hoq
      subst hoq
      rw [hgp, hxn]
      refine ⟨hx, fun k hk => ⟨(hkeys _).2 (Or.inr (by omega)), ?_⟩⟩
      try dsimp only
      rw [if_pos (by omega)]
 refine ⟨_, hown, if_pos (by omega), hpk, hgp, ?_, ?_⟩
 · intro a r
   constructor
   · rintro ⟨q, g1, g2, g3⟩
     dsimp only at g2
     rcases (hkeys q).1 g1 with hq | hq
     · rw [hoin q hq] at g2
       rw [hgq q hq] at g3
       exact Or.inl ⟨q, hq, g2, g3⟩
     · rw [if_pos hq] at g2
       subst g2
       rw [hgp] at g3
       exact Or.inr g3
   · rintro (⟨q, g1, g2, g3⟩ | hb)
     · exact ⟨q, (hkeys q).2 (Or.inl g1), by simp only; rw [hoin q g1]; exact g2, by rw [hgq q g1]; exact g3⟩
     · exact ⟨p, hpk, by simp only; rw [if_pos (by omega)], by rw [hgp]; exact hb⟩
 · rintro a r b ⟨q, hq⟩ hb
   exact hrd _ (hnot _ (hq.word h hb).1)
theorem classOf_le {n c : Nat} (h : classOf n = some c) : n ≤ classSize c ∧ c < 8 := by
 refine ⟨?_, classOf_lt h⟩
 unfold classOf at h
 have := List.find?_some h
 unfold classSize
 simpa using this
theorem classOf_big {n : Nat} (h : classOf n = none) : 28 < n := by
 unfold classOf at h
 have := List.find?_eq_none.1 h 7 (by simp)
 simp [sizes] at this
 omega
theorem bitFree_no {w n k : Nat} (h : bitFree w n = some k) : w.testBit k = false := by
 unfold bitFree at h
 have := List.find?_some h
 simpa using this
theorem alloc_own {s : Slab} {o : Nat → Nat} (h : Own s o) {n : Nat} (h1 : 1 ≤ n) (h2 : n ≤ 4000) (hr : (s.pages.length + classPages n) * 64 ≤ s.quota) :
 ∃ a s' o' r, allocH s n = ((a, 0), s') ∧ Took s s' o o' a r ∧ n ≤ r ∧ s'.pages.length ≤ s.pages.length + classPages n := by
 cases hc : classOf n with
 | none =>
  have h28 := classOf_big hc
  have hcp : classPages n = (n + 65) / 64 := by unfold classPages; rw [if_neg (by omega), hc]
  obtain ⟨p, hg, hp, hf⟩ := grant_run h.wf (n := classPages n) (by omega) (by omega) hr
  have hx : HeadOk ⟨2, classPages n, n⟩ := Or.inr ⟨rfl, by simp only; omega, by simp only; omega⟩
  have hsp : spanH ⟨2, classPages n, n⟩ = classPages n := rfl
  obtain ⟨o', q1, q2, q3, q4, q5, q6⟩ := own_more h hx hsp (by simp only; omega) hf (by omega) hr
  refine ⟨p * 64 + 2, putH (s.addRun p (classPages n)) p ⟨2, classPages n, n⟩, o', classPages n * 64 - 2, ?_, ⟨q1, ?_, ?_, q6, ?_⟩, by omega, ?_⟩
  · unfold allocH
    rw [if_neg (by omega), hc]
    simp only [hg]
  · intro a0 r0
    rw [q5]
    constructor
    · rintro (hq | ⟨f1, _⟩ | ⟨f1, f2, f3⟩)
      · exact Or.inl hq
      · cases f1
      · refine Or.inr ⟨f2, ?_⟩; simp only at f3; omega
    · rintro (hq | ⟨rfl, rfl⟩)
      · exact Or.inl hq
      · exact Or.inr (Or.inr ⟨rfl, rfl, by simp only; omega⟩)
  · rintro r0 ⟨q, hq⟩
    have e := (hq.pos h).2.1
    have e2 : q = p := by omega
    subst e2
    exact hf 0 (by omega) hq.1
  · rw [putH_quota, addRun_quota]
  · rw [putH_length, addRun_length]; exact Nat.le_refl _
 | some c =>
  obtain ⟨hcn, hc8⟩ := classOf_le hc
  have hcp : classPages n = 1 := by unfold classPages; rw [if_neg (by omega), hc]
  cases hs : spotH s c with
  | some pk =>
   obtain ⟨p, k⟩ := pk
   obtain ⟨x, hm, g1, g2, g3⟩ := spotIn_mem _ hs
   obtain ⟨m1, m2, m3⟩ := (h.mem_heads _).1 hm
   simp only at m1 m2 m3
   subst m3
   obtain ⟨T, hl⟩ := own_take h m1 m2 g1 (by rw [g2]; exact bitFree_lt g3) (bitFree_no g3)
   refine ⟨(takeH s p k).1, (takeH s p k).2, o, classSize (getH s p).n, ?_, T, by rw [g2]; exact hcn, by rw [hl]; omega⟩
   unfold allocH
   rw [if_neg (by omega), hc]
   simp only [hs]
  | none =>
   rw [hcp] at hr
   obtain ⟨p, hg, hp, hf⟩ := grant_run h.wf (n := 1) (by omega) (by omega) hr
   have hx : HeadOk ⟨1, c, 0⟩ := Or.inl ⟨rfl, hc8⟩
   have hsp : spanH ⟨1, c, 0⟩ = 1 := rfl
   obtain ⟨o', q1, q2, q3, q4, q5, q6⟩ := own_more h hx hsp (by simp only; omega) hf (by omega) hr
   have hsl : 0 < classSlots c := by
    have : c = 0 ∨ c = 1 ∨ c = 2 ∨ c = 3 ∨ c = 4 ∨ c = 5 ∨ c = 6 ∨ c = 7 := by omega
    rcases this with rfl | rfl | rfl | rfl | rfl | rfl | rfl | rfl <;> simp [classSlots, sizes]
   obtain ⟨T, hl⟩ := own_take q1 (k := 0) q3 q2 (by rw [q4]) (by rw [q4]; exact hsl) (by rw [q4]; simp)
   have q5' : ∀ a r, Place (putH (s.addRun p 1) p ⟨1, c, 0⟩) o' a r ↔ Place s o a r := fun a r => by
    rw [q5]
    constructor
    · rintro (hq | ⟨_, k, _, f, _⟩ | ⟨f, _⟩)
      · exact hq
      · simp at f
      · cases f
    · exact Or.inl
   refine ⟨(takeH (putH (s.addRun p 1) p ⟨1, c, 0⟩) p 0).1, (takeH (putH (s.addRun p 1) p ⟨1, c, 0⟩) p 0).2, o', classSize (getH (putH (s.addRun p 1) p ⟨1, c, 0⟩) p).n, ?_, ⟨T.own, ?_, ?_, ?_, ?_⟩, ?_, ?_⟩
   · unfold allocH
     rw [if_neg (by omega), hc]
     simp only [hs, hg]
   · intro a0 r0; rw [T.pl, q5']; rfl
   · intro r0 hq; exact T.fresh r0 ((q5' _ _).2 hq)
   · intro a0 r0 b hq hb
     rw [T.rd a0 r0 b ((q5' _ _).2 hq) hb]
     exact q6 a0 r0 b hq hb
   · rw [T.quota, putH_quota, addRun_quota]
   · rw [q4]; exact hcn
   · rw [hl, putH_length, addRun_length, hcp]; exact Nat.le_refl _
structure Freed (s s' : Slab) (o : Nat → Nat) (a : Nat) : Prop where
 own : Own s' o
 pl : ∀ a0 r0, Place s' o a0 r0 ↔ Place s o a0 r0 ∧ a0 ≠ a
 rd : ∀ a0 r0 b, Place s' o a0 r0 → b < r0 → s'.rd (a0 + b) = s.rd (a0 + b)
 quota : s'.quota = s.quota
 len : s'.pages.length ≤ s.pages.length
theorem own_less {s : Slab} {o : Nat → Nat} (h : Own s o) {p n : Nat} (hp : p ∈ s.keys) (ho : o p = p) (hn : spanH (getH s p) = n) :
 Own (s.delRun p n) o ∧ (∀ a r, Place (s.delRun p n) o a r ↔ Place s o a r ∧ a / 64 ≠ p) ∧ (∀ a r b, Place (s.delRun p n) o a r → b < r → (s.delRun p n).rd (a + b) = s.rd (a + b)) := by
 have dn := (h.down p hp ho).2
 rw [hn] at dn
 have hkeys : ∀ q, q ∈ (s.delRun p n).keys ↔ q ∈ s.keys ∧ ¬ (p ≤ q ∧ q < p + n) := fun q => mem_keys_delRun
 have hgq : ∀ q, q ∈ (s.delRun p n).keys → getH (s.delRun p n) q = getH s q := fun q hq => getH_congr fun b h1 h2 => delRun_rd s p n (by have := ((hkeys q).1 hq).2; omega)
 have hwin : ∀ q, q ∈ s.keys → (o q = p ↔ p ≤ q ∧ q < p + n) := fun q hq => by
  constructor
  · intro e
    have := h.up q hq
    rw [e, hn] at this
    exact ⟨this.2.2.1, this.2.2.2⟩
  · intro e
    have := (dn (q - p) (by omega)).2
    rw [show p + (q - p) = q by omega] at this
    exact this
 have hown : Own (s.delRun p n) o := by
  refine ⟨delRun_wf h.wf p n, ?_, ?_⟩
  · intro q hq
    obtain ⟨g1, g2⟩ := (hkeys q).1 hq
    have := h.up q g1
    have hk : o q ∈ (s.delRun p n).keys := (hkeys _).2 ⟨this.1, fun hc => by
     have e := (hwin (o q) this.1).2 hc
     rw [this.2.1] at e
     exact g2 ((hwin q g1).1 e)⟩
    rw [hgq _ hk]
    exact ⟨hk, this.2⟩
  · intro q hq hoq
    obtain ⟨g1, g2⟩ := (hkeys q).1 hq
    rw [hgq q hq]
    have := h.down q g1 hoq
    refine ⟨this.1, fun k hk => ?_⟩
    have h3 := this.2 k hk
    refine ⟨(hkeys _).2 ⟨h3.1, fun hc => ?_⟩, h3.2⟩
    have e := (hwin _ h3.1).2 hc
    rw [h3.2] at e
    subst e
    exact g2 ((hwin q g1).1 hoq)
 have hpl : ∀ a r, Place (s.delRun p n) o a r ↔ Place s o a r ∧ a / 64 ≠ p := by
  intro a r
  constructor
  · rintro ⟨q, g1, g2, g3⟩
    have hk := (hkeys q).1 g1
    rw [hgq q g1] at g3
    have hq : PlaceAt s o q a r := ⟨hk.1, g2, g3⟩
    refine ⟨⟨q, hq⟩, ?_⟩
    rw [(hq.pos h).2.1]
    rintro rfl
    exact hk.2 ((hwin q hk.1).1 g2)
  · rintro ⟨⟨q, hq⟩, hne⟩
    rw [(hq.pos h).2.1] at hne
    have hk : q ∈ (s.delRun p n).keys := (hkeys q).2 ⟨hq.1, fun hc => hne (by rw [← hq.2.1]; exact (hwin q hq.1).2 hc)⟩
    exact ⟨q, hk, hq.2.1, by rw [hgq q hk]; exact hq.2.2⟩
 refine ⟨hown, hpl, ?_⟩
 rintro a r b ⟨q, hq⟩ hb
 have hk := ((hkeys _).1 (hq.word hown hb).1).2
 exact delRun_rd s p n (by omega)
theorem release_ok {s : Slab} (hw : SlabWF s) {p n : Nat} (h1 : 1 ≤ n) (h2 : n ≤ 64) (hk : ∀ k, k < n → p + k ∈ s.keys) : s.release p n = (0, s.delRun p n) := by
 have htop := hw.top _ (hk (n - 1) (by omega))
 unfold Slab.release
 rw [if_neg (by omega), if_pos (runIs_iff.2 hk)]
theorem findIn_is (a : Nat) : ∀ (l : List (Nat × Head)) {p k : Nat} {x : Head}, findIn a l = some (p, k, x) → (p, x) ∈ l ∧ ((x.kind = 2 ∧ a = p * 64 + 2) ∨ (x.kind = 1 ∧ k < classSlots x.n ∧ placeH p x.n k = a ∧ x.w.testBit k = true))
 | [], p, k, x, h => by unfold findIn at h; cases h
 | (q, y) :: r, p, k, x, h => by
  unfold findIn at h
  split at h
  · rename_i hc
    have h := Option.some.inj h
    injection h with e1 e2
    injection e2 with e2 e3
    subst e1 e2 e3
    exact ⟨List.mem_cons_self .., Or.inl hc⟩
  · split at h
    · have := findIn_is a r h
      exact ⟨List.mem_cons_of_mem _ this.1, this.2⟩
    · rename_i hc
      split at h
      · rename_i k' hk'
        have h := Option.some.inj h
        injection h with e1 e2
        injection e2 with e2 e3
        subst e1 e2 e3
        unfold slotAt at hk'
        have hm := List.mem_of_find?_eq_some hk'
        have hp := List.find?_some hk'
        simp only [List.mem_range] at hm
        simp only [Bool.and_eq_true, decide_eq_true_eq, bitOf] at hp
        have hcc : ¬ (y.kind ≠ 1) := fun e => hc (Or.inl e)
        exact ⟨List.mem_cons_self .., Or.inr ⟨Decidable.not_not.1 hcc, hm, hp.1, hp.2.2⟩⟩
      · have := findIn_is a r h
        exact ⟨List.mem_cons_of_mem _ this.1, this.2⟩
theorem findIn_not (a : Nat) : ∀ (l : List (Nat × Head)), findIn a l = none → ∀ p x, (p, x) ∈ l → ¬ (x.kind = 2 ∧ a = p * 64 + 2) ∧ (x.kind = 1 → a / 64 = p → ∀ k, k < classSlots x.n → placeH p x.n k = a → x.w.testBit k = false)
 | [], _, p, x, hm => by cases hm
 | (q, y) :: r, h, p, x, hm => by
  unfold findIn at h
  split at h
  · cases h
  · rename_i hc1
    split at h
    · rename_i hc
      rcases List.mem_cons.1 hm with e | e
      · injection e with e1 e2
        subst e1 e2
        refine ⟨hc1, fun g1 g2 => ?_⟩
        rcases hc with hc | hc
        · exact absurd g1 hc
        · exact absurd g2 hc
      · exact findIn_not a r h p x e
    · split at h
      · cases h
      · rename_i hs
        rcases List.mem_cons.1 hm with e | e
        · injection e with e1 e2
          subst e1 e2
          refine ⟨hc1, fun _ _ k hk he => ?_⟩
          unfold slotAt at hs
          have := List.find?_eq_none.1 hs k (List.mem_range.2 hk)
          have hk64 := (slots_lt hk).2
          simpa [he, bitOf, show k < 64 by omega] using this
        · exact findIn_not a r h p x e
theorem find_own {s : Slab} {o : Nat → Nat} (h : Own s o) {a r : Nat} (hp : Place s o a r) : ∃ p k, findH s a = some (p, k, getH s p) ∧ p ∈ s.keys ∧ o p = p ∧ a / 64 = p ∧ (((getH s p).kind = 2 ∧ a = p * 64 + 2) ∨ ((getH s p).kind = 1 ∧ k < classSlots (getH s p).n ∧ placeH p (getH s p).n k = a ∧ (getH s p).w.testBit k = true)) := by
 obtain ⟨q, hq⟩ := hp
 have hq64 := (hq.pos h).2.1
 have hqm : (q, getH s q) ∈ heads s := (h.mem_heads _).2 ⟨hq.1, hq.2.1, rfl⟩
 cases hf : findH s a with
 | none =>
  exfalso
  have := findIn_not a _ hf q _ hqm
  rcases hq.2.2 with ⟨f1, k, f2, f3, f4, f5⟩ | ⟨f1, f2, f3⟩
  · have := this.2 f1 hq64 k f2 f4.symm
    rw [this] at f3
    cases f3
  · exact this.1 ⟨f1, f2⟩
 | some t =>
  obtain ⟨p, k, x⟩ := t
  obtain ⟨hm, hx⟩ := findIn_is a _ hf
  obtain ⟨m1, m2, m3⟩ := (h.mem_heads _).1 hm
  simp only at m1 m2 m3
  subst m3
  refine ⟨p, k, rfl, m1, m2, ?_, hx⟩
  rcases hx with hx | hx
  · omega
  · obtain ⟨e1, e2, e3⟩ := slot_room (slots_lt hx.2.1).1 hx.2.1 p
    omega
theorem free_own {s : Slab} {o : Nat → Nat} (h : Own s o) {a r : Nat} (hp : Place s o a r) : ∃ s', freeH s a = (0, s') ∧ Freed s s' o a := by
 obtain ⟨p, k, hf, m1, m2, m3, hx⟩ := find_own h hp
 have hd := h.down p m1 m2
 obtain ⟨x, hxe⟩ : ∃ x, getH s p = x := ⟨_, rfl⟩
 have hwx := h.wf.getH_lt p
 rw [hxe] at hf hx hd hwx
 rcases hx with ⟨x1, x2⟩ | ⟨x1, x2, x3, x4⟩
 · have hsp : spanH x = x.n := by unfold spanH; rw [if_pos x1]
   obtain ⟨hok, dn⟩ := hd
   rw [hsp] at dn
   have hn : 1 ≤ x.n ∧ x.n ≤ 64 := by rcases hok with g | g <;> omega
   have hrel := release_ok h.wf hn.1 hn.2 fun j hj => (dn j hj).1
   obtain ⟨q1, q2, q3⟩ := own_less (n := x.n) h m1 m2 (by rw [hxe]; exact hsp)
   refine ⟨s.delRun p x.n, ?_, q1, ?_, q3, delRun_quota s p _, delRun_length s p _⟩
   · unfold freeH
     rw [hf]
     simp only [x1, if_true]
     exact hrel
   · intro a0 r0
     rw [q2]
     constructor
     · rintro ⟨g, hne⟩; exact ⟨g, fun e => hne (by rw [e]; exact m3)⟩
     · rintro ⟨g, hne⟩
       refine ⟨g, fun e => hne ?_⟩
       obtain ⟨q, hq⟩ := g
       have := (hq.pos h).2.1
       have e2 : q = p := by omega
       subst e2
       have g3 := hq.2.2
       rw [hxe] at g3
       rcases g3 with ⟨f1, _⟩ | ⟨f1, f2, f3⟩
       · omega
       · omega
 · have hc8 := (slots_lt x2).1
   have hk64 := (slots_lt x2).2
   obtain ⟨e1, e2, e3⟩ := slot_room hc8 x2 p
   obtain ⟨y, hy⟩ : ∃ y : Head, { x with w := bitClear x.w k } = y := ⟨_, rfl⟩
   have hy1 : y.kind = 1 := by rw [← hy]; exact x1
   have hyn : y.n = x.n := by rw [← hy]
   have hyw : y.w = bitClear x.w k := by rw [← hy]
   have hys : y.kind < 256 ∧ y.n < 256 := by rw [hy1, hyn]; omega
   have hywl : y.w < 18446744073709551616 := by rw [hyw]; exact Nat.lt_of_le_of_lt Nat.and_le_left hwx
   have hw1 : SlabWF (putH s p y) := putH_wf h.wf p hys.1 hys.2 hywl
   have hgp : getH (putH s p y) p = y := putH_get h.wf m1 hys.1 hys.2
   have hgq : ∀ q, q ≠ p → getH (putH s p y) q = getH s q := fun q hq => getH_congr fun b h1 h2 => putH_rd p y (by omega) (by omega)
   have hkeys := putH_keys s p y
   have hown : Own (putH s p y) o := by
    refine ⟨hw1, ?_, ?_⟩
    · intro q hq
      rw [hkeys] at hq ⊢
      have := h.up q hq
      by_cases e : o q = p
      · rw [e, hgp]
        rw [e, hxe] at this
        refine ⟨this.1, this.2.1, this.2.2.1, ?_⟩
        have h4 := this.2.2.2
        unfold spanH at h4 ⊢
        rw [hy1]
        rw [x1] at h4
        exact h4
      · rw [hgq _ e]; exact this
    · intro q hq hoq
      rw [hkeys] at hq ⊢
      have := h.down q hq hoq
      by_cases e : q = p
      · subst e
        rw [hgp]
        rw [hxe] at this
        refine ⟨Or.inl ⟨hy1, by rw [hyn]; exact hc8⟩, fun j hj => this.2 j ?_⟩
        unfold spanH at hj ⊢
        rw [hy1] at hj
        rw [x1]
        exact hj
      · rw [hgq _ e]; exact this
   have hpl : ∀ a0 r0, Place (putH s p y) o a0 r0 ↔ Place s o a0 r0 ∧ a0 ≠ a := by
    intro a0 r0
    constructor
    · rintro ⟨q, g1, g2, g3⟩
      rw [hkeys] at g1
      by_cases e : q = p
      · subst e
        rw [hgp] at g3
        rcases g3 with ⟨f1, k', f2, f3, f4, f5⟩ | ⟨f1, _⟩
        · rw [hyn] at f2 f4 f5
          rw [hyw, testBit_clear (by omega) (by have := (slots_lt f2).2; omega)] at f3
          simp only [Bool.and_eq_true, Bool.not_eq_true', decide_eq_false_iff_not] at f3
          refine ⟨⟨q, g1, g2, by rw [hxe]; exact Or.inl ⟨x1, k', f2, f3.1, f4, f5⟩⟩, ?_⟩
          intro e
          exact f3.2 (placeH_inj x2 f2 (x3.trans (e.symm.trans f4)))
        · omega
      · rw [hgq _ e] at g3
        have hq : PlaceAt s o q a0 r0 := ⟨g1, g2, g3⟩
        refine ⟨⟨q, hq⟩, ?_⟩
        have := (hq.pos h).2.1
        rintro rfl
        exact e (by omega)
    · rintro ⟨⟨q, hq⟩, hne⟩
      refine ⟨q, by rw [hkeys]; exact hq.1, hq.2.1, ?_⟩
      by_cases e : q = p
      · subst e
        rw [hgp]
        have g3 := hq.2.2
        rw [hxe] at g3
        rcases g3 with ⟨f1, k', f2, f3, f4, f5⟩ | ⟨f1, _⟩
        · refine Or.inl ⟨hy1, k', by rw [hyn]; exact f2, ?_, by rw [hyn]; exact f4, by rw [hyn]; exact f5⟩
          rw [hyw, testBit_clear (by omega) (by have := (slots_lt f2).2; omega), f3]
          have : k ≠ k' := by rintro rfl; exact hne (f4.trans x3)
          simp [this]
        · omega
      · rw [hgq _ e]; exact hq.2.2
   have hrd : ∀ a0 r0 b, Place (putH s p y) o a0 r0 → b < r0 → (putH s p y).rd (a0 + b) = s.rd (a0 + b) := by
    intro a0 r0 b hq hb
    obtain ⟨q, hq⟩ := ((hpl a0 r0).1 hq).1
    have hh := fun e => hq.not_head h (b := b) hb m2 e
    refine putH_rd p y ?_ ?_
    · intro e; have := hh (by omega); omega
    · intro e; have := hh (by omega); omega
   have hfr : freeH s a = (0, leaveH s p k) := by
    unfold freeH
    rw [hf]
    simp only
    rw [if_neg (by omega)]
   by_cases hz : y = ⟨1, x.n, 0⟩
   · have hsp : spanH (getH (putH s p y) p) = 1 := by rw [hgp, hz]; rfl
     obtain ⟨q1, q2, q3⟩ := own_less hown (p := p) (n := 1) (by rw [hkeys]; exact m1) m2 hsp
     have hrel := release_ok hw1 (p := p) (n := 1) (by omega) (by omega) fun j hj => by
      obtain rfl : j = 0 := by omega
      rw [hkeys]; exact m1
     refine ⟨(putH s p y).delRun p 1, ?_, q1, ?_, ?_, ?_, ?_⟩
     · rw [hfr]
       unfold leaveH
       simp only [hxe, hy]
       rw [if_pos hz, hrel]
     · intro a0 r0
       rw [q2, hpl]
       constructor
       · rintro ⟨g, _⟩; exact g
       · intro g
         refine ⟨g, fun e => ?_⟩
         obtain ⟨q, hq⟩ := (hpl a0 r0).2 g
         have := (hq.pos hown).2.1
         have e2 : q = p := by omega
         subst e2
         have g3 := hq.2.2
         rw [hgp, hz] at g3
         rcases g3 with ⟨_, k', _, f, _⟩ | ⟨f, _⟩
         · simp at f
         · cases f
     · intro a0 r0 b hq hb
       rw [q3 a0 r0 b hq hb]
       exact hrd a0 r0 b ((q2 a0 r0).1 hq).1 hb
     · rw [delRun_quota, putH_quota]
     · exact Nat.le_trans (delRun_length _ _ _) (by rw [putH_length]; exact Nat.le_refl _)
   · refine ⟨putH s p y, ?_, hown, hpl, hrd, putH_quota s p y, by rw [putH_length]; exact Nat.le_refl _⟩
     rw [hfr]
     unfold leaveH
     simp only [hxe, hy]
     rw [if_neg hz]
structure Fit (S : St) (o : Nat → Nat) : Prop where
 own : Own S.a o
 tab : TabWF S.t
 live : ∀ (i : Nat) (x : Slot), S.t.slots[i]? = some x → x.is = 1 → ∃ r, Place S.a o x.addr r ∧ S.a.rd (x.addr + 1) + 2 ≤ r ∧ S.a.rd (x.addr + 1) ≤ 3998
 inj : ∀ (i j : Nat) (x y : Slot), S.t.slots[i]? = some x → S.t.slots[j]? = some y → x.is = 1 → y.is = 1 → x.addr = y.addr → i = j
theorem Fit.inv {S : St} {o : Nat → Nat} (h : Fit S o) : Inv S where
 len i hi h1 := by
  obtain ⟨r, h2, h3, h4⟩ := h.live i _ (List.getElem?_eq_getElem hi) h1
  have := (h2.ok h.own (b := 0) (by omega)).2.1
  unfold lastAddr at this
  exact ⟨h4, by omega⟩
 apart i j hi hj hne h1 h2 := by
  obtain ⟨r, g2, g3, g4⟩ := h.live i _ (List.getElem?_eq_getElem hi) h1
  obtain ⟨r', f2, f3, f4⟩ := h.live j _ (List.getElem?_eq_getElem hj) h2
  rcases Place.apart h.own g2 f2 with hq | hq | hq
  · exact absurd (h.inj i j _ _ (List.getElem?_eq_getElem hi) (List.getElem?_eq_getElem hj) h1 h2 hq.1) hne
  · left; omega
  · right; omega
theorem of_name {t : Tab} (ht : TabWF t) {h k : Nat} : t.of h = some k ↔ ∃ x : Slot, t.slots[k]? = some x ∧ x.is = 1 ∧ h = nameOf x.gen k := by
 unfold Tab.of nameOf
 constructor
 · intro hh
   simp only at hh
   split at hh
   · cases hh
   · split at hh
     · cases hh
     · rename_i x hx
       split at hh
       · rename_i hc
         have := Option.some.inj hh
         subst this
         exact ⟨x, hx, hc.1, by rw [hc.2]; omega⟩
       · cases hh
 · rintro ⟨x, hx, h1, rfl⟩
   have hk : k < t.slots.length := (List.getElem?_eq_some_iff.1 hx).1
   have hl := ht.len
   have hm := ht.most.2
   have e1 : (x.gen * 4294967296 + (k + 1)) % 4294967296 = k + 1 := by omega
   have e2 : (x.gen * 4294967296 + (k + 1)) / 4294967296 = x.gen := by omega
   simp only [e1, e2]
   rw [if_neg (by omega), Nat.add_sub_cancel, hx]
   simp only [h1, and_self, if_true]
def Lf.reco (S : St) (h : Nat) : Option (List Nat) :=
 match S.t.of h with
 | none => none
 | some k => some ((List.range (S.a.rd ((S.t.slots.getD k ⟨0, 0, 0⟩).addr + 1))).map fun j => S.a.rd ((S.t.slots.getD k ⟨0, 0, 0⟩).addr + 2 + j))
def wordsAt (s : Slab) (a : Nat) : List Nat := (List.range (s.rd (a + 1))).map fun j => s.rd (a + 2 + j)
theorem wordsAt_length (s : Slab) (a : Nat) : (wordsAt s a).length = s.rd (a + 1) := by simp [wordsAt]
theorem wordsAt_get {s : Slab} {a k : Nat} (h : k < s.rd (a + 1)) : (wordsAt s a).getD k 0 = s.rd (a + 2 + k) := by
 unfold wordsAt
 rw [List.getD_eq_getElem?_getD, List.getElem?_map, List.getElem?_range h]
 rfl
theorem look_iff {S : St} (ht : TabWF S.t) {h : Nat} {ws : List Nat} : reco S h = some ws ↔ ∃ (k : Nat) (x : Slot), S.t.slots[k]? = some x ∧ x.is = 1 ∧ h = nameOf x.gen k ∧ ws = wordsAt S.a x.addr := by
 unfold reco
 constructor
 · intro hh
   split at hh
   · cases hh
   · rename_i k hk
     obtain ⟨x, hx, h1, h2⟩ := (of_name ht).1 hk
     refine ⟨k, x, hx, h1, h2, ?_⟩
     have e : S.t.slots.getD k ⟨0, 0, 0⟩ = x := by rw [List.getD_eq_getElem?_getD, hx]; rfl
     rw [e] at hh
     exact (Option.some.inj hh).symm
 · rintro ⟨k, x, hx, h1, h2, rfl⟩
   rw [(of_name ht).2 ⟨x, hx, h1, h2⟩]
   have e : S.t.slots.getD k ⟨0, 0, 0⟩ = x := by rw [List.getD_eq_getElem?_getD, hx]; rfl
   simp only [e]
   rfl
theorem look_ext {S S' : St} {h : Nat} (he : ∀ ws, reco S h = some ws ↔ reco S' h = some ws) : reco S' h = reco S h := by
 cases h1 : reco S h with
 | some ws => exact (he ws).1 h1
 | none =>
  cases h2 : reco S' h with
  | none => rfl
  | some ws => rw [(he ws).2 h2] at h1; cases h1
theorem look_len {S : St} (ht : TabWF S.t) {h : Nat} {ws : List Nat} (hl : reco S h = some ws) : S.len h = (ws.length, 0) := by
 obtain ⟨k, x, hx, h1, h2, rfl⟩ := (look_iff ht).1 hl
 have hk : k < S.t.slots.length := (List.getElem?_eq_some_iff.1 hx).1
 have hxe : S.t.slots[k] = x := by have := List.getElem?_eq_getElem hk; rw [hx] at this; exact (Option.some.inj this).symm
 unfold St.len
 rw [St.at_some ((of_name ht).2 ⟨x, hx, h1, h2⟩) hk, hxe, wordsAt_length]
theorem look_none {S : St} {h : Nat} (hl : reco S h = none) : S.len h = (0, 7) := by
 unfold reco at hl
 split at hl
 · rename_i e; unfold St.len; rw [St.at_none e]
 · cases hl
theorem look_get {S : St} {o : Nat → Nat} (hf : Fit S o) {h : Nat} {ws : List Nat} (hl : reco S h = some ws) {k : Nat} (hk : k < ws.length) : S.get h k = (ws.getD k 0, 0) := by
 obtain ⟨i, x, hx, h1, h2, rfl⟩ := (look_iff hf.tab).1 hl
 have hi : i < S.t.slots.length := (List.getElem?_eq_some_iff.1 hx).1
 have hxe : S.t.slots[i] = x := by have := List.getElem?_eq_getElem hi; rw [hx] at this; exact (Option.some.inj this).symm
 rw [wordsAt_length] at hk
 obtain ⟨r, g1, g2, g3⟩ := hf.live i x hx h1
 have hok := g1.ok hf.own (b := 2 + k) (by omega)
 unfold St.get
 rw [St.at_some ((of_name hf.tab).2 ⟨x, hx, h1, h2⟩) hi, hxe]
 simp only
 rw [if_pos hk, wordsAt_get hk]
 rw [← Nat.add_assoc] at hok
 rw [hok.1]
theorem look_ok {S : St} {o : Nat → Nat} (hf : Fit S o) {h : Nat} {ws : List Nat} (hl : reco S h = some ws) : 0 < h ∧ h < 18446744073709551616 ∧ ws.length ≤ 3998 ∧ ∀ v ∈ ws, v < 18446744073709551616 := by
 obtain ⟨i, x, hx, h1, rfl, rfl⟩ := (look_iff hf.tab).1 hl
 have hi : i < S.t.slots.length := (List.getElem?_eq_some_iff.1 hx).1
 have hl := hf.tab.len
 have hm := hf.tab.most.2
 have hg := (hf.tab.slot x (List.mem_of_getElem? hx)).2.1
 obtain ⟨r, g1, g2, g3⟩ := hf.live i x hx h1
 refine ⟨by unfold nameOf; omega, by unfold nameOf; omega, by rw [wordsAt_length]; exact g3, fun v hv => ?_⟩
 unfold wordsAt at hv
 obtain ⟨j, _, rfl⟩ := List.mem_map.1 hv
 exact hf.own.wf.rd_lt _
structure Grew (S S' : St) (p q : Nat) : Prop where
 quota : S'.a.quota = S.a.quota
 most : S'.t.most = S.t.most
 last : S'.t.last = S.t.last
 pages : S'.a.pages.length ≤ S.a.pages.length + p
 slots : S'.t.slots.length ≤ S.t.slots.length + q
theorem Grew.refl (S : St) : Grew S S 0 0 := ⟨rfl, rfl, rfl, Nat.le_refl _, Nat.le_refl _⟩
theorem Grew.trans {S T U : St} {p q p' q' : Nat} (h : Grew S T p q) (k : Grew T U p' q') : Grew S U (p + p') (q + q') :=
 ⟨k.quota.trans h.quota, k.most.trans h.most, k.last.trans h.last, by have := h.pages; have := k.pages; omega, by have := h.slots; have := k.slots; omega⟩
theorem Grew.mono {S S' : St} {p q p' q' : Nat} (h : Grew S S' p q) (hp : p ≤ p') (hq : q ≤ q') : Grew S S' p' q' :=
 ⟨h.quota, h.most, h.last, by have := h.pages; omega, by have := h.slots; omega⟩
theorem look_put {S : St} {o : Nat → Nat} (hf : Fit S o) {h : Nat} {ws : List Nat} (hl : reco S h = some ws) {k x : Nat} (hk : k < ws.length) (hx : x < 18446744073709551616) :
 ∃ S', S.put h k x = (0, S') ∧ Fit S' o ∧ reco S' h = some (ws.set k x) ∧ (∀ h', h' ≠ h → reco S' h' = reco S h') ∧ Grew S S' 0 0 := by
 obtain ⟨i, y, hy, h1, h2, rfl⟩ := (look_iff hf.tab).1 hl
 have hi : i < S.t.slots.length := (List.getElem?_eq_some_iff.1 hy).1
 have hye : S.t.slots[i] = y := by have := List.getElem?_eq_getElem hi; rw [hy] at this; exact (Option.some.inj this).symm
 rw [wordsAt_length] at hk
 obtain ⟨r, g1, g2, g3⟩ := hf.live i y hy h1
 have hok := g1.ok hf.own (b := 2 + k) (by omega)
 obtain ⟨hown, hpl⟩ := hf.own.wr g1 (b := 2 + k) (x := x) (by omega) hx
 rw [← Nat.add_assoc] at hok hown hpl
 have hS : S.put h k x = (0, ⟨S.a.wr (y.addr + 2 + k) x, S.t⟩) := by
  unfold St.put
  rw [St.at_some ((of_name hf.tab).2 ⟨y, hy, h1, h2⟩) hi, hye]
  simp only
  rw [if_pos hk, hok.1]
 have hap : ∀ (j : Nat) (z : Slot), S.t.slots[j]? = some z → z.is = 1 → j ≠ i → ∀ b, b < 2 + S.a.rd (z.addr + 1) → (S.a.wr (y.addr + 2 + k) x).rd (z.addr + b) = S.a.rd (z.addr + b) := by
  intro j z hz hz1 hne b hb
  obtain ⟨r', f1, f2, f3⟩ := hf.live j z hz hz1
  refine Slab.rd_wr_ne _ _ _ _ ?_
  rcases Place.apart hf.own f1 g1 with hq | hq | hq
  · exact absurd (hf.inj j i z y hz hy hz1 h1 hq.1) hne
  · omega
  · omega
 have hself : (S.a.wr (y.addr + 2 + k) x).rd (y.addr + 1) = S.a.rd (y.addr + 1) := Slab.rd_wr_ne _ _ _ _ (by omega)
 refine ⟨_, hS, ⟨hown, hf.tab, ?_, hf.inj⟩, ?_, ?_, ⟨rfl, rfl, rfl, by show (Slab.wr _ _ _).pages.length ≤ _; rw [pages_wr_length]; exact Nat.le_refl _, Nat.le_refl _⟩⟩
 · intro j z hz hz1
   obtain ⟨r', f1, f2, f3⟩ := hf.live j z hz hz1
   refine ⟨r', hpl _ _ f1, ?_⟩
   by_cases e : j = i
   · subst e
     have hz : S.t.slots[j]? = some z := hz
     rw [hy] at hz
     injection hz with hz
     subst hz
     show (S.a.wr (y.addr + 2 + k) x).rd (y.addr + 1) + 2 ≤ r' ∧ (S.a.wr (y.addr + 2 + k) x).rd (y.addr + 1) ≤ 3998
     rw [hself]; exact ⟨f2, f3⟩
   · show (S.a.wr (y.addr + 2 + k) x).rd (z.addr + 1) + 2 ≤ r' ∧ (S.a.wr (y.addr + 2 + k) x).rd (z.addr + 1) ≤ 3998
     rw [hap j z hz hz1 e 1 (by omega)]; exact ⟨f2, f3⟩
 · refine (look_iff (S := ⟨S.a.wr (y.addr + 2 + k) x, S.t⟩) hf.tab).2 ⟨i, y, hy, h1, h2, ?_⟩
   refine List.ext_getElem? fun j => ?_
   show _ = (wordsAt (S.a.wr (y.addr + 2 + k) x) y.addr)[j]?
   unfold wordsAt
   rw [hself]
   by_cases hj : j < S.a.rd (y.addr + 1)
   · rw [List.getElem?_map, List.getElem?_range hj]
     by_cases e : k = j
     · subst e
       rw [List.getElem?_set_self (by simp; exact hk)]
       show some x = some ((S.a.wr (y.addr + 2 + k) x).rd (y.addr + 2 + k))
       rw [rd_wr_eq hf.own.wf hok.2.2]
     · rw [List.getElem?_set_ne e, List.getElem?_map, List.getElem?_range hj]
       show some _ = some ((S.a.wr (y.addr + 2 + k) x).rd (y.addr + 2 + j))
       rw [Slab.rd_wr_ne _ _ _ _ (by omega)]
   · rw [List.getElem?_eq_none (by simp; omega), List.getElem?_eq_none (by simp; omega)]
 · intro h' hne
   refine look_ext (S' := ⟨S.a.wr (y.addr + 2 + k) x, S.t⟩) fun ws' => ?_
   have hw : ∀ (j : Nat) (z : Slot), S.t.slots[j]? = some z → z.is = 1 → h' = nameOf z.gen j → wordsAt (S.a.wr (y.addr + 2 + k) x) z.addr = wordsAt S.a z.addr := by
    intro j z hz hz1 he
    have hji : j ≠ i := by
     rintro rfl
     rw [hy] at hz
     injection hz with hz
     subst hz
     exact hne (he.trans h2.symm)
    unfold wordsAt
    rw [hap j z hz hz1 hji 1 (by omega)]
    refine List.map_congr_left fun b hb => ?_
    have hb := List.mem_range.1 hb
    have := hap j z hz hz1 hji (2 + b) (by omega)
    rw [← Nat.add_assoc] at this
    exact this
   rw [look_iff hf.tab, look_iff (S := ⟨S.a.wr (y.addr + 2 + k) x, S.t⟩) hf.tab]
   constructor
   · rintro ⟨j, z, q1, q2, q3, q4⟩
     exact ⟨j, z, q1, q2, q3, by rw [q4]; exact (hw j z q1 q2 q3).symm⟩
   · rintro ⟨j, z, q1, q2, q3, q4⟩
     exact ⟨j, z, q1, q2, q3, by rw [q4]; exact hw j z q1 q2 q3⟩
theorem look_putWords {o : Nat → Nat} {h : Nat} : ∀ (l : List Nat) {S : St} {ws : List Nat} {k : Nat}, Fit S o → reco S h = some ws → k + l.length ≤ ws.length → (∀ v ∈ l, v < 18446744073709551616) →
 Fit (putWords S h k l) o ∧ reco (putWords S h k l) h = some (ws.take k ++ l ++ ws.drop (k + l.length)) ∧ (∀ h', h' ≠ h → reco (putWords S h k l) h' = reco S h') ∧ Grew S (putWords S h k l) 0 0
 | [], S, ws, k, hf, hl, hk, hv => by
  refine ⟨hf, ?_, fun _ _ => rfl, Grew.refl S⟩
  show reco S h = _
  rw [hl]; simp
 | x :: r, S, ws, k, hf, hl, hk, hv => by
  simp only [List.length_cons] at hk
  obtain ⟨S', e, hf', hl', ho', hg'⟩ := look_put hf hl (k := k) (x := x) (by omega) (hv x (List.mem_cons_self ..))
  obtain ⟨q1, q2, q3, q4⟩ := look_putWords r hf' hl' (k := k + 1) (by rw [List.length_set]; omega) (fun v hm => hv v (List.mem_cons_of_mem _ hm))
  have e2 : putWords S h k (x :: r) = putWords S' h (k + 1) r := by
   show putWords (S.put h k x).2 h (k + 1) r = _
   rw [e]
  rw [e2]
  refine ⟨q1, ?_, fun h' hn => (q3 h' hn).trans (ho' h' hn), (hg'.trans q4).mono (by omega) (by omega)⟩
  rw [q2]
  congr 1
  have hk2 : k < ws.length := by omega
  rw [List.drop_set_of_lt (by omega), List.take_set, List.take_add_one, List.getElem?_eq_getElem hk2]
  simp only [Option.toList_some, List.length_cons]
  rw [List.set_append_right _ _ (by simp; omega)]
  have : k - (ws.take k).length = 0 := by simp; omega
  rw [this]
  simp only [List.set_cons_zero, List.append_assoc, List.cons_append, List.nil_append]
  rw [show k + 1 + r.length = k + (r.length + 1) by omega]
theorem look_putAll {S : St} {o : Nat → Nat} {h : Nat} {l ws : List Nat} (hf : Fit S o) (hl : reco S h = some ws) (hk : l.length = ws.length) (hv : ∀ v ∈ l, v < 18446744073709551616) :
 Fit (putWords S h 0 l) o ∧ reco (putWords S h 0 l) h = some l ∧ (∀ h', h' ≠ h → reco (putWords S h 0 l) h' = reco S h') ∧ Grew S (putWords S h 0 l) 0 0 := by
 have := look_putWords l hf hl (k := 0) (by omega) hv
 rw [List.take_zero, List.nil_append, List.drop_eq_nil_of_le (by omega), List.append_nil] at this
 exact this
theorem firstFree_spec : ∀ (l : List Slot) (k0 : Nat), ∃ k, firstFree l k0 = k0 + k ∧ k ≤ l.length ∧ (∀ x : Slot, l[k]? = some x → x.is = 0)
 | [], k0 => ⟨0, rfl, Nat.le_refl _, by simp⟩
 | y :: r, k0 => by
  unfold firstFree
  by_cases h : y.is = 0
  · rw [if_pos h]
    exact ⟨0, rfl, by omega, fun x hx => by simp at hx; rw [← hx]; exact h⟩
  · rw [if_neg h]
    obtain ⟨k, h1, h2, h3⟩ := firstFree_spec r (k0 + 1)
    exact ⟨k + 1, by rw [h1]; omega, by simp only [List.length_cons]; omega, fun x hx => h3 x (by simpa using hx)⟩
def Space (S : St) (p q : Nat) : Prop := (S.a.pages.length + p) * 64 ≤ S.a.quota ∧ S.t.slots.length + q ≤ S.t.most
theorem Space.grew {S S' : St} {p q p' q' : Nat} (h : Space S (p + p') (q + q')) (hg : Grew S S' p q) : Space S' p' q' := by
 obtain ⟨h1, h2⟩ := h
 obtain ⟨g1, g2, _, g4, g5⟩ := hg
 refine ⟨?_, by rw [g2]; omega⟩
 rw [g1]
 refine Nat.le_trans (Nat.mul_le_mul_right 64 ?_) h1
 omega
theorem Space.mono {S : St} {p q p' q' : Nat} (h : Space S p q) (hp : p' ≤ p) (hq : q' ≤ q) : Space S p' q' :=
 ⟨Nat.le_trans (Nat.mul_le_mul_right 64 (by omega)) h.1, by have := h.2; omega⟩
theorem make_fit {S : St} {o : Nat → Nat} (hf : Fit S o) {n : Nat} (hn : n ≤ 3998) (hr : Space S (classPages (n + 2)) 1) :
 ∃ h S' o' ws, S.make n = ((h, 0), S') ∧ Fit S' o' ∧ reco S h = none ∧ ws.length = n ∧ reco S' h = some ws ∧ (∀ h', h' ≠ h → reco S' h' = reco S h') ∧ Grew S S' (classPages (n + 2)) 1 ∧ (S.t.open (allocH S.a (n + 2)).1.1).1.2 = 0 := by
 obtain ⟨a, s', o', r, ea, T, hnr, hpl⟩ := alloc_own hf.own (n := n + 2) (by omega) (by omega) hr.1
 obtain ⟨k, hk1, hk2, hk3⟩ := firstFree_spec S.t.slots 0
 rw [Nat.zero_add] at hk1
 have hkm : k ≠ S.t.most := by have := hr.2; omega
 have hm := hf.tab.most.2
 have hlen := hf.tab.len
 obtain ⟨l, hl⟩ : ∃ l, (if k = S.t.slots.length then S.t.slots ++ [⟨0, 0, 0⟩] else S.t.slots) = l := ⟨_, rfl⟩
 have hlk : k < l.length := by
  rw [← hl]
  split
  · simp only [List.length_append, List.length_cons, List.length_nil]; omega
  · omega
 have hll : l.length ≤ S.t.slots.length + 1 := by rw [← hl]; split <;> simp
 have hlm : l.length ≤ S.t.most := by
  rw [← hl]; split
  · have := hr.2; simp; omega
  · exact hlen
 have hlg : ∀ i : Nat, i ≠ k → l[i]? = S.t.slots[i]? := by
  intro i hi
  rw [← hl]
  split
  · rename_i e
    rcases Nat.lt_or_ge i S.t.slots.length with h | h
    · rw [List.getElem?_append_left h]
    · rw [List.getElem?_append_right h, List.getElem?_eq_none h, List.getElem?_eq_none (by simp; omega)]
  · rfl
 obtain ⟨g, hg⟩ : ∃ g, (S.t.genAt k + 1) % 4294967296 = g := ⟨_, rfl⟩
 have hgl : g < 4294967296 := by rw [← hg]; omega
 obtain ⟨h, hh⟩ : ∃ h, nameOf g k = h := ⟨_, rfl⟩
 have hhl : h < 18446744073709551616 := by rw [← hh]; unfold nameOf; omega
 have hop : S.t.open a = ((h, 0), { S.t with slots := l.set k ⟨1, g, a⟩ }) := by
  unfold Tab.open
  simp only [hk1]
  rw [if_neg hkm]
  simp only [hl, hg, hh]
 have hnew := (T.pl a r).2 (Or.inr ⟨rfl, rfl⟩)
 obtain ⟨hw1, hp1⟩ := T.own.wr hnew (b := 0) (x := h) (by omega) hhl
 rw [Nat.add_zero] at hw1 hp1
 obtain ⟨hw2, hp2⟩ := hw1.wr (hp1 _ _ hnew) (b := 1) (x := n) (by omega) (by omega)
 have hmk : S.make n = ((h, 0), ⟨(s'.wr a h).wr (a + 1) n, { S.t with slots := l.set k ⟨1, g, a⟩ }⟩) := by
  unfold St.make
  rw [if_neg (by omega), ea]
  simp only [hop]
 have hrd : ∀ a0 r0 b, Place S.a o a0 r0 → b < r0 → ((s'.wr a h).wr (a + 1) n).rd (a0 + b) = S.a.rd (a0 + b) := by
  intro a0 r0 b hq hb
  have hap := Place.apart T.own ((T.pl a0 r0).2 (Or.inl hq)) hnew
  have hne : a0 ≠ a := by rintro rfl; exact T.fresh _ hq
  rw [Slab.rd_wr_ne _ _ _ _ (by omega), Slab.rd_wr_ne _ _ _ _ (by omega)]
  exact T.rd a0 r0 b hq hb
 have hlen' : ((s'.wr a h).wr (a + 1) n).rd (a + 1) = n := rd_wr_eq hw1.wf (by rw [keys_wr]; exact (hnew.ok T.own (b := 1) (by omega)).2.2) _
 have hsl : ∀ (i : Nat) (x : Slot), (l.set k ⟨1, g, a⟩)[i]? = some x → (i = k ∧ x = ⟨1, g, a⟩) ∨ (i ≠ k ∧ S.t.slots[i]? = some x) := by
  intro i x hx
  by_cases e : i = k
  · subst e
    rw [List.getElem?_set_self hlk] at hx
    exact Or.inl ⟨rfl, (Option.some.inj hx).symm⟩
  · rw [List.getElem?_set_ne (fun h => e h.symm), hlg i e] at hx
    exact Or.inr ⟨e, hx⟩
 have hsk : (l.set k ⟨1, g, a⟩)[k]? = some ⟨1, g, a⟩ := List.getElem?_set_self hlk
 have hso : ∀ i : Nat, i ≠ k → (l.set k (⟨1, g, a⟩ : Slot))[i]? = S.t.slots[i]? := fun i e => by rw [List.getElem?_set_ne (fun h => e h.symm), hlg i e]
 have haddr : a ≤ 4611686018427387903 := by have := (hnew.ok T.own (b := 0) (by omega)).2.1; unfold lastAddr at this; omega
 have htab : TabWF { S.t with slots := l.set k ⟨1, g, a⟩ } := by
  refine ⟨hf.tab.most, hf.tab.last, by simp only [List.length_set]; exact hlm, fun x hx => ?_⟩
  obtain ⟨i, hi⟩ := List.getElem?_of_mem hx
  rcases hsl i x hi with ⟨_, e⟩ | ⟨_, e⟩
  · subst e; exact ⟨by show 1 ≤ 2; decide, hgl, haddr⟩
  · exact hf.tab.slot x (List.mem_of_getElem? e)
 have hfit : Fit ⟨(s'.wr a h).wr (a + 1) n, { S.t with slots := l.set k ⟨1, g, a⟩ }⟩ o' := by
  refine ⟨hw2, htab, ?_, ?_⟩
  · intro i x hx h1
    rcases hsl i x hx with ⟨_, e⟩ | ⟨_, e⟩
    · subst e
      refine ⟨r, hp2 _ _ (hp1 _ _ hnew), ?_⟩
      simp only
      rw [hlen']
      omega
    · obtain ⟨r0, f1, f2, f3⟩ := hf.live i x e h1
      refine ⟨r0, hp2 _ _ (hp1 _ _ ((T.pl _ _).2 (Or.inl f1))), ?_⟩
      simp only
      rw [hrd _ _ 1 f1 (by omega)]
      exact ⟨f2, f3⟩
  · intro i j x y hx hy h1 h2 he
    rcases hsl i x hx with ⟨e1, e⟩ | ⟨e1, e⟩
    · rcases hsl j y hy with ⟨e2, e'⟩ | ⟨e2, e'⟩
      · rw [e1, e2]
      · subst e
        obtain ⟨r0, f1, _⟩ := hf.live j y e' h2
        rw [← he] at f1
        exact absurd f1 (T.fresh _)
    · rcases hsl j y hy with ⟨e2, e'⟩ | ⟨e2, e'⟩
      · subst e'
        obtain ⟨r0, f1, _⟩ := hf.live i x e h1
        rw [he] at f1
        exact absurd f1 (T.fresh _)
      · exact hf.inj i j x y e e' h1 h2 he
 have hno : reco S h = none := by
  cases hq : reco S h with
  | none => rfl
  | some ws =>
   exfalso
   obtain ⟨i, x, hx, h1, h2, _⟩ := (look_iff hf.tab).1 hq
   have hi : i < S.t.slots.length := (List.getElem?_eq_some_iff.1 hx).1
   have e : i = k := by rw [← hh] at h2; unfold nameOf at h2; omega
   subst e
   have := hk3 x hx
   omega
 refine ⟨h, _, o', wordsAt ((s'.wr a h).wr (a + 1) n) a, hmk, hfit, hno, by rw [wordsAt_length, hlen'], ?_, ?_, ?_, ?_⟩
 · exact (look_iff htab).2 ⟨k, _, hsk, rfl, hh.symm, rfl⟩
 · intro h' hne
   refine look_ext fun ws => ?_
   rw [look_iff hf.tab, look_iff htab]
   have hw : ∀ (i : Nat) (x : Slot), S.t.slots[i]? = some x → x.is = 1 → wordsAt ((s'.wr a h).wr (a + 1) n) x.addr = wordsAt S.a x.addr := by
    intro i x hx h1
    obtain ⟨r0, f1, f2, f3⟩ := hf.live i x hx h1
    unfold wordsAt
    rw [hrd _ _ 1 f1 (by omega)]
    refine List.map_congr_left fun b hb => ?_
    have hb := List.mem_range.1 hb
    have := hrd _ _ (2 + b) f1 (by omega)
    rw [← Nat.add_assoc] at this
    exact this
   constructor
   · rintro ⟨i, x, hx, h1, h2, h3⟩
     have hik : i ≠ k := by rintro rfl; have := hk3 x hx; omega
     exact ⟨i, x, (hso i hik).trans hx, h1, h2, by rw [h3]; exact (hw i x hx h1).symm⟩
   · rintro ⟨i, x, hx, h1, h2, h3⟩
     rcases hsl i x hx with ⟨e1, e⟩ | ⟨e1, e⟩
     · subst e1 e
       exact absurd (h2.trans hh) hne
     · exact ⟨i, x, e, h1, h2, by rw [h3]; exact hw i x e h1⟩
 · refine ⟨T.quota, rfl, rfl, ?_, ?_⟩
   · show (Slab.wr _ _ _).pages.length ≤ _
     rw [pages_wr_length, pages_wr_length]
     exact hpl
   · simp only [List.length_set]; exact hll
 · rw [ea]
   simp only [hop]
theorem make_ok {S : St} {o : Nat → Nat} (hf : Fit S o) {n : Nat} (hn : n ≤ 3998) (hr : Space S (classPages (n + 2)) 1) : MkOk S n := by
 obtain ⟨h, S', o', ws, e, hf', _, _, _, _, _, ho⟩ := make_fit hf hn hr
 exact ⟨ho, by rw [e]; exact hf'.inv⟩
theorem look_drop {S : St} {o : Nat → Nat} (hf : Fit S o) {h : Nat} {ws : List Nat} (hl : reco S h = some ws) :
 ∃ S', S.drop h = (0, S') ∧ Fit S' o ∧ reco S' h = none ∧ (∀ h', h' ≠ h → reco S' h' = reco S h') ∧ Grew S S' 0 0 := by
 obtain ⟨k, x, hx, h1, h2, rfl⟩ := (look_iff hf.tab).1 hl
 have hk : k < S.t.slots.length := (List.getElem?_eq_some_iff.1 hx).1
 have hxe : S.t.slots[k] = x := by have := List.getElem?_eq_getElem hk; rw [hx] at this; exact (Option.some.inj this).symm
 have hof := (of_name hf.tab).2 ⟨x, hx, h1, h2⟩
 obtain ⟨r, g1, g2, g3⟩ := hf.live k x hx h1
 obtain ⟨s', es, F⟩ := free_own hf.own g1
 obtain ⟨z, hz⟩ : ∃ z : Nat, (if x.gen = S.t.last then 2 else 0) = z := ⟨_, rfl⟩
 have hz1 : z ≠ 1 ∧ z ≤ 2 := by rw [← hz]; split <;> omega
 have hcl : S.t.close h = (0, { S.t with slots := S.t.slots.set k { x with is := z } }) := by
  rw [Tab.close_some hof hk, hxe, hz]
 have hsl : ∀ (i : Nat) (y : Slot), (S.t.slots.set k { x with is := z })[i]? = some y → y.is = 1 → i ≠ k ∧ S.t.slots[i]? = some y := by
  intro i y hy hy1
  by_cases e : i = k
  · subst e
    rw [List.getElem?_set_self hk] at hy
    injection hy with hy
    rw [← hy] at hy1
    exact absurd hy1 hz1.1
  · rw [List.getElem?_set_ne (fun h => e h.symm)] at hy
    exact ⟨e, hy⟩
 have hso : ∀ i : Nat, i ≠ k → (S.t.slots.set k { x with is := z })[i]? = S.t.slots[i]? := fun i e => List.getElem?_set_ne (fun h => e h.symm)
 have hne : ∀ (i : Nat) (y : Slot), S.t.slots[i]? = some y → y.is = 1 → i ≠ k → y.addr ≠ x.addr := fun i y hy hy1 hi e => hi (hf.inj i k y x hy hx hy1 h1 e)
 have htab : TabWF { S.t with slots := S.t.slots.set k { x with is := z } } := by
  refine ⟨hf.tab.most, hf.tab.last, by simp only [List.length_set]; exact hf.tab.len, fun y hy => ?_⟩
  obtain ⟨i, hi⟩ := List.getElem?_of_mem hy
  by_cases e : i = k
  · subst e
    rw [List.getElem?_set_self hk] at hi
    injection hi with hi
    rw [← hi]
    have := hf.tab.slot x (List.mem_of_getElem? hx)
    exact ⟨hz1.2, this.2⟩
  · rw [hso i e] at hi
    exact hf.tab.slot y (List.mem_of_getElem? hi)
 have hdrop : S.drop h = (0, ⟨s', { S.t with slots := S.t.slots.set k { x with is := z } }⟩) := by
  unfold St.drop
  rw [St.at_some hof hk, hxe]
  simp only [hcl, es]
 have hfit : Fit ⟨s', { S.t with slots := S.t.slots.set k { x with is := z } }⟩ o := by
  refine ⟨F.own, htab, ?_, ?_⟩
  · intro i y hy hy1
    obtain ⟨hi, hy⟩ := hsl i y hy hy1
    obtain ⟨r0, f1, f2, f3⟩ := hf.live i y hy hy1
    have hp := (F.pl _ _).2 ⟨f1, hne i y hy hy1 hi⟩
    refine ⟨r0, hp, ?_⟩
    simp only
    rw [F.rd _ _ 1 hp (by omega)]
    exact ⟨f2, f3⟩
  · intro i j y y' hy hy' h3 h4 he
    exact hf.inj i j y y' (hsl i y hy h3).2 (hsl j y' hy' h4).2 h3 h4 he
 refine ⟨_, hdrop, hfit, ?_, ?_, ⟨F.quota, rfl, rfl, F.len, by simp only [List.length_set]; exact Nat.le_refl _⟩⟩
 · cases hq : reco (⟨s', { S.t with slots := S.t.slots.set k { x with is := z } }⟩ : St) h with
   | none => rfl
   | some ws =>
    exfalso
    obtain ⟨i, y, hy, hy1, hy2, _⟩ := (look_iff htab).1 hq
    obtain ⟨hi, hy⟩ := hsl i y hy hy1
    have hil : i < S.t.slots.length := (List.getElem?_eq_some_iff.1 hy).1
    have := hf.tab.len
    have := hf.tab.most.2
    rw [h2] at hy2
    unfold nameOf at hy2
    omega
 · intro h' hn
   refine look_ext fun ws => ?_
   rw [look_iff hf.tab, look_iff htab]
   have hw : ∀ (i : Nat) (y : Slot), S.t.slots[i]? = some y → y.is = 1 → i ≠ k → wordsAt s' y.addr = wordsAt S.a y.addr := by
    intro i y hy hy1 hi
    obtain ⟨r0, f1, f2, f3⟩ := hf.live i y hy hy1
    have hp := (F.pl _ _).2 ⟨f1, hne i y hy hy1 hi⟩
    unfold wordsAt
    rw [F.rd _ _ 1 hp (by omega)]
    refine List.map_congr_left fun b hb => ?_
    have hb := List.mem_range.1 hb
    have := F.rd _ _ (2 + b) hp (by omega)
    rw [← Nat.add_assoc] at this
    exact this
   constructor
   · rintro ⟨i, y, hy, hy1, hy2, hy3⟩
     have hik : i ≠ k := by
      rintro rfl
      rw [hx] at hy
      injection hy with hy
      subst hy
      exact hn (hy2.trans h2.symm)
     exact ⟨i, y, (hso i hik).trans hy, hy1, hy2, by rw [hy3]; exact (hw i y hy hy1 hik).symm⟩
   · rintro ⟨i, y, hy, hy1, hy2, hy3⟩
     obtain ⟨hi, hy'⟩ := hsl i y hy hy1
     exact ⟨i, y, hy', hy1, hy2, by rw [hy3]; exact hw i y hy' hy1 hi⟩
