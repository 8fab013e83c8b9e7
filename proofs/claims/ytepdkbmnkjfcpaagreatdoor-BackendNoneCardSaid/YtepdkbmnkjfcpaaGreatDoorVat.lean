/- The heap: what Alloc and Free do to the places of blocks: plain. -/
import Derived.Test.YtepdkbmnkjfcpaaGreatDoorVas
set_option maxRecDepth 100000
namespace Go.Proofs.YtepdkbmnkjfcpaaGreatDoor
open Lf
theorem SlabWF.rd_lt {s : Slab} (hw : SlabWF s) (a : Nat) : s.rd a < 18446744073709551616 := by
  by_cases hp : a / 64 ∈ s.keys
  · obtain ⟨l, h1, h2⟩ := page_some hp
    rw [rd_some h1]
    have hl := hw.len _ h2
    have hi : a % 64 < l.length := by simp only at hl; omega
    rw [List.getD_eq_getElem?_getD, List.getElem?_eq_getElem hi]
    exact hw.word _ h2 _ (List.getElem_mem hi)
  · rw [rd_none hp]; decide
theorem SlabWF.getH_lt {s : Slab} (hw : SlabWF s) (p : Nat) : (getH s p).w < 18446744073709551616 := hw.rd_lt _
theorem testBit_set {w k j : Nat} : (bitSet w k).testBit j = (w.testBit j || decide (k = j)) := by
  unfold bitSet; rw [Nat.testBit_or, Nat.testBit_two_pow]
theorem testBit_clear {w k j : Nat} (hk : k < 64) (hj : j < 64) : (bitClear w k).testBit j = (w.testBit j && !decide (k = j)) := by
  unfold bitClear
  have h2 : (2 : Nat) ^ k < 2 ^ 64 := Nat.pow_lt_pow_right (by decide) hk
  have h1 : (18446744073709551615 - 2 ^ k : Nat) = 2 ^ 64 - (2 ^ k + 1) := by
    have : (2 : Nat) ^ 64 = 18446744073709551616 := by decide
    omega
  rw [Nat.testBit_and, h1, Nat.testBit_two_pow_sub_succ h2, Nat.testBit_two_pow]
  simp [hj]
structure Took (s s' : Slab) (o o' : Nat → Nat) (a r : Nat) : Prop where
  own : Own s' o'
  pl : ∀ a0 r0, Place s' o' a0 r0 ↔ Place s o a0 r0 ∨ (a0 = a ∧ r0 = r)
  fresh : ∀ r0, ¬ Place s o a r0
  rd : ∀ a0 r0 b, Place s o a0 r0 → b < r0 → s'.rd (a0 + b) = s.rd (a0 + b)
  quota : s'.quota = s.quota
theorem placeH_inj {c k k' h : Nat} (hk : k < classSlots c) (hk' : k' < classSlots c) (e : placeH h c k = placeH h c k') : k = k' := by
  have hc := (slots_lt hk).1
  have h1 := slot_room hc hk h
  have h2 := slot_room hc hk' h
  refine Classical.byContradiction fun hn => ?_
  have := slot_apart (c := c) hn
  omega
theorem own_take {s : Slab} {o : Nat → Nat} (h : Own s o) {p k : Nat} (hp : p ∈ s.keys) (ho : o p = p) (hk1 : (getH s p).kind = 1) (hk : k < classSlots (getH s p).n) (hb : (getH s p).w.testBit k = false) :
    Took s (takeH s p k).2 o o (placeH p (getH s p).n k) (classSize (getH s p).n) ∧ (takeH s p k).2.pages.length = s.pages.length := by
  obtain ⟨x, hx⟩ : ∃ x, getH s p = x := ⟨_, rfl⟩
  have hd := (h.down p hp ho).1
  have hwx := h.wf.getH_lt p
  have hc := slots_lt hk
  rw [hx] at hk1 hk hb hd hwx hc ⊢
  obtain ⟨e1, e2, e3⟩ := slot_room hc.1 hk p
  obtain ⟨a, ha⟩ : ∃ a, placeH p x.n k = a := ⟨_, rfl⟩
  obtain ⟨r, hr⟩ : ∃ r, classSize x.n = r := ⟨_, rfl⟩
  obtain ⟨y, hy⟩ : ∃ y : Head, { x with w := bitSet x.w k } = y := ⟨_, rfl⟩
  have hy1 : y.kind = 1 := by rw [← hy]; exact hk1
  have hyn : y.n = x.n := by rw [← hy]
  have hyw : y.w = bitSet x.w k := by rw [← hy]
  have hys : y.kind < 256 ∧ y.n < 256 := by rw [hy1, hyn]; exact ⟨by decide, hd.small.2⟩
  have hywl : y.w < 18446744073709551616 := by rw [hyw]; exact bitSet_lt hwx (by omega)
  have hs : (takeH s p k).2 = (putH s p y).zero a r := by
    unfold takeH clearH
    simp only [hx, hy, ha, hr]
  rw [ha, hr, hs]
  rw [ha] at e1
  rw [hr] at e1 e2 e3
  have hw1 : SlabWF (putH s p y) := putH_wf h.wf p hys.1 hys.2 hywl
  have hw' : SlabWF ((putH s p y).zero a r) := zero_wf hw1 a r
  have hkeys : ((putH s p y).zero a r).keys = s.keys := by rw [zero_keys, putH_keys]
  have hrd : ∀ b, (b < a ∨ a + r ≤ b) → b ≠ p * 64 → b ≠ p * 64 + 1 → ((putH s p y).zero a r).rd b = s.rd b := fun b h1 h2 h3 => by rw [zero_rd _ _ _ h1, putH_rd p y h2 h3]
  have hgp : getH ((putH s p y).zero a r) p = y := by
    rw [getH_congr (s := putH s p y) (fun b h1 h2 => zero_rd _ _ _ (by omega))]
    exact putH_get h.wf hp hys.1 hys.2
  have hgq : ∀ q, q ≠ p → getH ((putH s p y).zero a r) q = getH s q := fun q hq => getH_congr fun b h1 h2 => hrd b (by omega) (by omega) (by omega)
  have hown : Own ((putH s p y).zero a r) o := by
    refine ⟨hw', ?_, ?_⟩
    · intro q hq
      rw [hkeys] at hq ⊢
      have := h.up q hq
      by_cases e : o q = p
      · rw [e, hgp]
        rw [e, hx] at this
        refine ⟨this.1, this.2.1, this.2.2.1, ?_⟩
        have h4 := this.2.2.2
        unfold spanH at h4 ⊢
        rw [hy1]
        rw [hk1] at h4
        exact h4
      · rw [hgq _ e]; exact this
    · intro q hq hoq
      rw [hkeys] at hq ⊢
      have := h.down q hq hoq
      by_cases e : q = p
      · subst e
        rw [hgp]
        rw [hx] at this
        refine ⟨Or.inl ⟨hy1, by rw [hyn]; exact hc.1⟩, fun j hj => this.2 j ?_⟩
        unfold spanH at hj ⊢
        rw [hy1] at hj
        rw [hk1]
        exact hj
      · rw [hgq _ e]; exact this
  have hpl : ∀ a0 r0, Place ((putH s p y).zero a r) o a0 r0 ↔ Place s o a0 r0 ∨ (a0 = a ∧ r0 = r) := by
    intro a0 r0
    constructor
    · rintro ⟨h0, g1, g2, g3⟩
      rw [hkeys] at g1
      by_cases e : h0 = p
      · subst e
        rw [hgp] at g3
        rcases g3 with ⟨f1, k', f2, f3, f4, f5⟩ | ⟨f1, _⟩
        · rw [hyw, testBit_set] at f3
          rw [hyn] at f2 f4 f5
          by_cases ek : k = k'
          · subst ek; right; exact ⟨f4.trans ha, f5.trans hr⟩
          · left
            refine ⟨h0, g1, g2, Or.inl ⟨by rw [hx]; exact hk1, k', by rw [hx]; exact f2, ?_, by rw [hx]; exact f4, by rw [hx]; exact f5⟩⟩
            rw [hx]
            simpa [ek] using f3
        · omega
      · rw [hgq _ e] at g3
        exact Or.inl ⟨h0, g1, g2, g3⟩
    · rintro (⟨h0, g1, g2, g3⟩ | ⟨rfl, rfl⟩)
      · refine ⟨h0, by rw [hkeys]; exact g1, g2, ?_⟩
        by_cases e : h0 = p
        · subst e
          rw [hgp]
          rw [hx] at g3
          rcases g3 with ⟨f1, k', f2, f3, f4, f5⟩ | ⟨f1, _⟩
          · exact Or.inl ⟨hy1, k', by rw [hyn]; exact f2, by rw [hyw, testBit_set, f3]; rfl, by rw [hyn]; exact f4, by rw [hyn]; exact f5⟩
          · omega
        · rw [hgq _ e]; exact g3
      · refine ⟨p, by rw [hkeys]; exact hp, ho, ?_⟩
        rw [hgp]
        exact Or.inl ⟨hy1, k, by rw [hyn]; exact hk, by rw [hyw, testBit_set]; simp, by rw [hyn]; exact ha.symm, by rw [hyn]; exact hr.symm⟩
  have hfr : ∀ r0, ¬ Place s o a r0 := by
    rintro r0 ⟨h0, hq⟩
    have hh0 := (hq.pos h).2.1
    have : h0 = p := by omega
    subst this
    have g3 := hq.2.2
    rw [hx] at g3
    rcases g3 with ⟨f1, k', f2, f3, f4, f5⟩ | ⟨f1, _⟩
    · have := placeH_inj hk f2 (ha.trans f4)
      subst this
      rw [hb] at f3
      cases f3
    · omega
  refine ⟨⟨hown, hpl, hfr, ?_, ?_⟩, ?_⟩
  · intro a0 r0 b hq hbr
    have hap := Place.apart hown ((hpl a0 r0).2 (Or.inl hq)) ((hpl a r).2 (Or.inr ⟨rfl, rfl⟩))
    have hne : ¬ a0 = a := by rintro rfl; exact hfr _ hq
    obtain ⟨h0, hq⟩ := hq
    have hh := fun e => hq.not_head h (b := b) hbr ho e
    refine hrd _ (by omega) ?_ ?_
    · intro e; have := hh (by omega); omega
    · intro e; have := hh (by omega); omega
  · rw [zero_quota, putH_quota]
  · rw [zero_length, putH_length]
theorem grant_run {s : Slab} (hw : SlabWF s) {n : Nat} (h1 : 1 ≤ n) (h2 : n ≤ 100) (h3 : (s.pages.length + n) * 64 ≤ s.quota) : ∃ p, s.grant n = ((p, 0), s.addRun p n) ∧ p ≤ 409601 ∧ ∀ k, k < n → p + k ∉ s.keys := by
  obtain ⟨t, _, ht, hf⟩ := free_window n s.pages.length s.keys (by rw [keys_length]; exact Nat.le_refl _) 0
  have hrun : s.run n t = true := run_iff.2 hf
  obtain ⟨t', h4, h5, h6⟩ := least_run t hrun
  have he := firstRun_eq h5 (s.pages.length * n + 1) 0 (Nat.zero_le _) (by omega) fun g _ hg => h6 g hg
  have hg : s.grant n = ((t', 0), s.addRun t' n) := by
    unfold Slab.grant
    rw [if_neg (by omega), if_neg (by omega)]
    simp only [he]
  have hle := grant_le hw h2
  rw [hg] at hle
  exact ⟨t', hg, hle, run_iff.1 h5⟩
theorem own_more {s : Slab} {o : Nat → Nat} (h : Own s o) {p n : Nat} {x : Head} (hx : HeadOk x) (hxn : spanH x = n) (hxw : x.w < 18446744073709551616) (hfree : ∀ k, k < n → p + k ∉ s.keys) (hp : p + n ≤ 1048576) (hr : (s.pages.length + n) * 64 ≤ s.quota) :
    ∃ o', Own (putH (s.addRun p n) p x) o' ∧ o' p = p ∧ p ∈ (putH (s.addRun p n) p x).keys ∧ getH (putH (s.addRun p n) p x) p = x ∧
      (∀ a r, Place (putH (s.addRun p n) p x) o' a r ↔ Place s o a r ∨ BlkOf x p a r) ∧ (∀ a r b, Place s o a r → b < r → (putH (s.addRun p n) p x).rd (a + b) = s.rd (a + b)) := by
  have hn1 : 1 ≤ n := by
    rw [← hxn]; unfold spanH
    rcases hx with hx | hx
    · rw [if_neg (by omega)]; exact Nat.le_refl _
    · rw [if_pos hx.1]; exact hx.2.1
  have hw1 : SlabWF (s.addRun p n) := addRun_wf h.wf n hfree hp hr
  obtain ⟨hsm1, hsm2⟩ := hx.small
  have hw' : SlabWF (putH (s.addRun p n) p x) := putH_wf hw1 p hsm1 hsm2 hxw
  have hkeys : ∀ q, q ∈ (putH (s.addRun p n) p x).keys ↔ q ∈ s.keys ∨ (p ≤ q ∧ q < p + n) := fun q => by rw [putH_keys, addRun_keys]
  have hpk : p ∈ (putH (s.addRun p n) p x).keys := (hkeys p).2 (Or.inr (by omega))
  have hgp : getH (putH (s.addRun p n) p x) p = x := putH_get hw1 (by rw [← putH_keys (s.addRun p n) p x]; exact hpk) hsm1 hsm2
  have hrd : ∀ b, (b / 64 < p ∨ p + n ≤ b / 64) → (putH (s.addRun p n) p x).rd b = s.rd b := fun b hb => by
    rw [putH_rd p x (by omega) (by omega), addRun_rd s p n hb]
  have hnot : ∀ q, q ∈ s.keys → q < p ∨ p + n ≤ q := fun q hq => by
    refine Classical.byContradiction fun hc => ?_
    have := hfree (q - p) (by omega)
    rw [show p + (q - p) = q by omega] at this
    exact this hq
  have hgq : ∀ q, q ∈ s.keys → getH (putH (s.addRun p n) p x) q = getH s q := fun q hq => getH_congr fun b h1 h2 => hrd b (by rw [h1]; exact hnot q hq)
  have hoin : ∀ q, q ∈ s.keys → (if p ≤ q ∧ q < p + n then p else o q) = o q := fun q hq => if_neg (by have := hnot q hq; omega)
  have hown : Own (putH (s.addRun p n) p x) (fun q => if p ≤ q ∧ q < p + n then p else o q) := by
    refine ⟨hw', ?_, ?_⟩
    · intro q hq
      rcases (hkeys q).1 hq with hq | hq
      · have := h.up q hq
        simp only [hoin q hq, hoin _ this.1]
        rw [hgq _ this.1]
        exact ⟨(hkeys _).2 (Or.inl this.1), this.2⟩
      · have e1 : (if p ≤ q ∧ q < p + n then p else o q) = p := if_pos hq
        have e2 : (if p ≤ p ∧ p < p + n then p else o p) = p := if_pos (by omega)
        simp only [e1, e2]
        rw [hgp, hxn]
        exact ⟨hpk, trivial, hq.1, hq.2⟩
    · intro q hq hoq
      rcases (hkeys q).1 hq with hq | hq
      · rw [hoin q hq] at hoq
        rw [hgq q hq]
        have := h.down q hq hoq
        refine ⟨this.1, fun k hk => ?_⟩
        have h3 := this.2 k hk
        simp only [hoin _ h3.1]
        exact ⟨(hkeys _).2 (Or.inl h3.1), h3.2⟩
      · rw [if_pos hq] at hoq
        subst hoq
        rw [hgp, hxn]
        refine ⟨hx, fun k hk => ⟨(hkeys _).2 (Or.inr (by omega)), ?_⟩⟩
        try dsimp only
        rw [if_pos (by omega)]
  refine ⟨_, hown, if_pos (by omega), hpk, hgp, ?_, ?_⟩
  · intro a r
    constructor
    · rintro ⟨q, g1, g2, g3⟩
      dsimp only at g2
      rcases (hkeys q).1 g1 with hq | hq
      · rw [hoin q hq] at g2
        rw [hgq q hq] at g3
        exact Or.inl ⟨q, hq, g2, g3⟩
      · rw [if_pos hq] at g2
        subst g2
        rw [hgp] at g3
        exact Or.inr g3
    · rintro (⟨q, g1, g2, g3⟩ | hb)
      · exact ⟨q, (hkeys q).2 (Or.inl g1), by simp only; rw [hoin q g1]; exact g2, by rw [hgq q g1]; exact g3⟩
      · exact ⟨p, hpk, by simp only; rw [if_pos (by omega)], by rw [hgp]; exact hb⟩
  · rintro a r b ⟨q, hq⟩ hb
    exact hrd _ (hnot _ (hq.word h hb).1)
theorem classOf_le {n c : Nat} (h : classOf n = some c) : n ≤ classSize c ∧ c < 8 := by
  refine ⟨?_, classOf_lt h⟩
  unfold classOf at h
  have := List.find?_some h
  unfold classSize
  simpa using this
theorem classOf_big {n : Nat} (h : classOf n = none) : 28 < n := by
  unfold classOf at h
  have := List.find?_eq_none.1 h 7 (by simp)
  simp [sizes] at this
  omega
theorem bitFree_no {w n k : Nat} (h : bitFree w n = some k) : w.testBit k = false := by
  unfold bitFree at h
  have := List.find?_some h
  simpa using this
theorem alloc_own {s : Slab} {o : Nat → Nat} (h : Own s o) {n : Nat} (h1 : 1 ≤ n) (h2 : n ≤ 4000) (hr : (s.pages.length + classPages n) * 64 ≤ s.quota) :
    ∃ a s' o' r, allocH s n = ((a, 0), s') ∧ Took s s' o o' a r ∧ n ≤ r ∧ s'.pages.length ≤ s.pages.length + classPages n := by
  cases hc : classOf n with
  | none =>
    have h28 := classOf_big hc
    have hcp : classPages n = (n + 65) / 64 := by unfold classPages; rw [if_neg (by omega), hc]
    obtain ⟨p, hg, hp, hf⟩ := grant_run h.wf (n := classPages n) (by omega) (by omega) hr
    have hx : HeadOk ⟨2, classPages n, n⟩ := Or.inr ⟨rfl, by simp only; omega, by simp only; omega⟩
    have hsp : spanH ⟨2, classPages n, n⟩ = classPages n := rfl
    obtain ⟨o', q1, q2, q3, q4, q5, q6⟩ := own_more h hx hsp (by simp only; omega) hf (by omega) hr
    refine ⟨p * 64 + 2, putH (s.addRun p (classPages n)) p ⟨2, classPages n, n⟩, o', classPages n * 64 - 2, ?_, ⟨q1, ?_, ?_, q6, ?_⟩, by omega, ?_⟩
    · unfold allocH
      rw [if_neg (by omega), hc]
      simp only [hg]
    · intro a0 r0
      rw [q5]
      constructor
      · rintro (hq | ⟨f1, _⟩ | ⟨f1, f2, f3⟩)
        · exact Or.inl hq
        · cases f1
        · refine Or.inr ⟨f2, ?_⟩; simp only at f3; omega
      · rintro (hq | ⟨rfl, rfl⟩)
        · exact Or.inl hq
        · exact Or.inr (Or.inr ⟨rfl, rfl, by simp only; omega⟩)
    · rintro r0 ⟨q, hq⟩
      have e := (hq.pos h).2.1
      have e2 : q = p := by omega
      subst e2
      exact hf 0 (by omega) hq.1
    · rw [putH_quota, addRun_quota]
    · rw [putH_length, addRun_length]; exact Nat.le_refl _
  | some c =>
    obtain ⟨hcn, hc8⟩ := classOf_le hc
    have hcp : classPages n = 1 := by unfold classPages; rw [if_neg (by omega), hc]
    cases hs : spotH s c with
    | some pk =>
      obtain ⟨p, k⟩ := pk
      obtain ⟨x, hm, g1, g2, g3⟩ := spotIn_mem _ hs
      obtain ⟨m1, m2, m3⟩ := (h.mem_heads _).1 hm
      simp only at m1 m2 m3
      subst m3
      obtain ⟨T, hl⟩ := own_take h m1 m2 g1 (by rw [g2]; exact bitFree_lt g3) (bitFree_no g3)
      refine ⟨(takeH s p k).1, (takeH s p k).2, o, classSize (getH s p).n, ?_, T, by rw [g2]; exact hcn, by rw [hl]; omega⟩
      unfold allocH
      rw [if_neg (by omega), hc]
      simp only [hs]
    | none =>
      rw [hcp] at hr
      obtain ⟨p, hg, hp, hf⟩ := grant_run h.wf (n := 1) (by omega) (by omega) hr
      have hx : HeadOk ⟨1, c, 0⟩ := Or.inl ⟨rfl, hc8⟩
      have hsp : spanH ⟨1, c, 0⟩ = 1 := rfl
      obtain ⟨o', q1, q2, q3, q4, q5, q6⟩ := own_more h hx hsp (by simp only; omega) hf (by omega) hr
      have hsl : 0 < classSlots c := by
        have : c = 0 ∨ c = 1 ∨ c = 2 ∨ c = 3 ∨ c = 4 ∨ c = 5 ∨ c = 6 ∨ c = 7 := by omega
        rcases this with rfl | rfl | rfl | rfl | rfl | rfl | rfl | rfl <;> simp [classSlots, sizes]
      obtain ⟨T, hl⟩ := own_take q1 (k := 0) q3 q2 (by rw [q4]) (by rw [q4]; exact hsl) (by rw [q4]; simp)
      have q5' : ∀ a r, Place (putH (s.addRun p 1) p ⟨1, c, 0⟩) o' a r ↔ Place s o a r := fun a r => by
        rw [q5]
        constructor
        · rintro (hq | ⟨_, k, _, f, _⟩ | ⟨f, _⟩)
          · exact hq
          · simp at f
          · cases f
        · exact Or.inl
      refine ⟨(takeH (putH (s.addRun p 1) p ⟨1, c, 0⟩) p 0).1, (takeH (putH (s.addRun p 1) p ⟨1, c, 0⟩) p 0).2, o', classSize (getH (putH (s.addRun p 1) p ⟨1, c, 0⟩) p).n, ?_, ⟨T.own, ?_, ?_, ?_, ?_⟩, ?_, ?_⟩
      · unfold allocH
        rw [if_neg (by omega), hc]
        simp only [hs, hg]
      · intro a0 r0; rw [T.pl, q5']; rfl
      · intro r0 hq; exact T.fresh r0 ((q5' _ _).2 hq)
      · intro a0 r0 b hq hb
        rw [T.rd a0 r0 b ((q5' _ _).2 hq) hb]
        exact q6 a0 r0 b hq hb
      · rw [T.quota, putH_quota, addRun_quota]
      · rw [q4]; exact hcn
      · rw [hl, putH_length, addRun_length, hcp]; exact Nat.le_refl _
structure Freed (s s' : Slab) (o : Nat → Nat) (a : Nat) : Prop where
  own : Own s' o
  pl : ∀ a0 r0, Place s' o a0 r0 ↔ Place s o a0 r0 ∧ a0 ≠ a
  rd : ∀ a0 r0 b, Place s' o a0 r0 → b < r0 → s'.rd (a0 + b) = s.rd (a0 + b)
  quota : s'.quota = s.quota
  len : s'.pages.length ≤ s.pages.length
theorem own_less {s : Slab} {o : Nat → Nat} (h : Own s o) {p n : Nat} (hp : p ∈ s.keys) (ho : o p = p) (hn : spanH (getH s p) = n) :
    Own (s.delRun p n) o ∧ (∀ a r, Place (s.delRun p n) o a r ↔ Place s o a r ∧ a / 64 ≠ p) ∧ (∀ a r b, Place (s.delRun p n) o a r → b < r → (s.delRun p n).rd (a + b) = s.rd (a + b)) := by
  have dn := (h.down p hp ho).2
  rw [hn] at dn
  have hkeys : ∀ q, q ∈ (s.delRun p n).keys ↔ q ∈ s.keys ∧ ¬ (p ≤ q ∧ q < p + n) := fun q => mem_keys_delRun
  have hgq : ∀ q, q ∈ (s.delRun p n).keys → getH (s.delRun p n) q = getH s q := fun q hq => getH_congr fun b h1 h2 => delRun_rd s p n (by have := ((hkeys q).1 hq).2; omega)
  have hwin : ∀ q, q ∈ s.keys → (o q = p ↔ p ≤ q ∧ q < p + n) := fun q hq => by
    constructor
    · intro e
      have := h.up q hq
      rw [e, hn] at this
      exact ⟨this.2.2.1, this.2.2.2⟩
    · intro e
      have := (dn (q - p) (by omega)).2
      rw [show p + (q - p) = q by omega] at this
      exact this
  have hown : Own (s.delRun p n) o := by
    refine ⟨delRun_wf h.wf p n, ?_, ?_⟩
    · intro q hq
      obtain ⟨g1, g2⟩ := (hkeys q).1 hq
      have := h.up q g1
      have hk : o q ∈ (s.delRun p n).keys := (hkeys _).2 ⟨this.1, fun hc => by
        have e := (hwin (o q) this.1).2 hc
        rw [this.2.1] at e
        exact g2 ((hwin q g1).1 e)⟩
      rw [hgq _ hk]
      exact ⟨hk, this.2⟩
    · intro q hq hoq
      obtain ⟨g1, g2⟩ := (hkeys q).1 hq
      rw [hgq q hq]
      have := h.down q g1 hoq
      refine ⟨this.1, fun k hk => ?_⟩
      have h3 := this.2 k hk
      refine ⟨(hkeys _).2 ⟨h3.1, fun hc => ?_⟩, h3.2⟩
      have e := (hwin _ h3.1).2 hc
      rw [h3.2] at e
      subst e
      exact g2 ((hwin q g1).1 hoq)
  have hpl : ∀ a r, Place (s.delRun p n) o a r ↔ Place s o a r ∧ a / 64 ≠ p := by
    intro a r
    constructor
    · rintro ⟨q, g1, g2, g3⟩
      have hk := (hkeys q).1 g1
      rw [hgq q g1] at g3
      have hq : PlaceAt s o q a r := ⟨hk.1, g2, g3⟩
      refine ⟨⟨q, hq⟩, ?_⟩
      rw [(hq.pos h).2.1]
      rintro rfl
      exact hk.2 ((hwin q hk.1).1 g2)
    · rintro ⟨⟨q, hq⟩, hne⟩
      rw [(hq.pos h).2.1] at hne
      have hk : q ∈ (s.delRun p n).keys := (hkeys q).2 ⟨hq.1, fun hc => hne (by rw [← hq.2.1]; exact (hwin q hq.1).2 hc)⟩
      exact ⟨q, hk, hq.2.1, by rw [hgq q hk]; exact hq.2.2⟩
  refine ⟨hown, hpl, ?_⟩
  rintro a r b ⟨q, hq⟩ hb
  have hk := ((hkeys _).1 (hq.word hown hb).1).2
  exact delRun_rd s p n (by omega)
theorem release_ok {s : Slab} (hw : SlabWF s) {p n : Nat} (h1 : 1 ≤ n) (h2 : n ≤ 64) (hk : ∀ k, k < n → p + k ∈ s.keys) : s.release p n = (0, s.delRun p n) := by
  have htop := hw.top _ (hk (n - 1) (by omega))
  unfold Slab.release
  rw [if_neg (by omega), if_pos (runIs_iff.2 hk)]
theorem findIn_is (a : Nat) : ∀ (l : List (Nat × Head)) {p k : Nat} {x : Head}, findIn a l = some (p, k, x) → (p, x) ∈ l ∧ ((x.kind = 2 ∧ a = p * 64 + 2) ∨ (x.kind = 1 ∧ k < classSlots x.n ∧ placeH p x.n k = a ∧ x.w.testBit k = true))
  | [], p, k, x, h => by unfold findIn at h; cases h
  | (q, y) :: r, p, k, x, h => by
    unfold findIn at h
    split at h
    · rename_i hc
      have h := Option.some.inj h
      injection h with e1 e2
      injection e2 with e2 e3
      subst e1 e2 e3
      exact ⟨List.mem_cons_self .., Or.inl hc⟩
    · split at h
      · have := findIn_is a r h
        exact ⟨List.mem_cons_of_mem _ this.1, this.2⟩
      · rename_i hc
        split at h
        · rename_i k' hk'
          have h := Option.some.inj h
          injection h with e1 e2
          injection e2 with e2 e3
          subst e1 e2 e3
          unfold slotAt at hk'
          have hm := List.mem_of_find?_eq_some hk'
          have hp := List.find?_some hk'
          simp only [List.mem_range] at hm
          simp only [Bool.and_eq_true, decide_eq_true_eq, bitOf] at hp
          have hcc : ¬ (y.kind ≠ 1) := fun e => hc (Or.inl e)
          exact ⟨List.mem_cons_self .., Or.inr ⟨Decidable.not_not.1 hcc, hm, hp.1, hp.2.2⟩⟩
        · have := findIn_is a r h
          exact ⟨List.mem_cons_of_mem _ this.1, this.2⟩
theorem findIn_not (a : Nat) : ∀ (l : List (Nat × Head)), findIn a l = none → ∀ p x, (p, x) ∈ l → ¬ (x.kind = 2 ∧ a = p * 64 + 2) ∧ (x.kind = 1 → a / 64 = p → ∀ k, k < classSlots x.n → placeH p x.n k = a → x.w.testBit k = false)
  | [], _, p, x, hm => by cases hm
  | (q, y) :: r, h, p, x, hm => by
    unfold findIn at h
    split at h
    · cases h
    · rename_i hc1
      split at h
      · rename_i hc
        rcases List.mem_cons.1 hm with e | e
        · injection e with e1 e2
          subst e1 e2
          refine ⟨hc1, fun g1 g2 => ?_⟩
          rcases hc with hc | hc
          · exact absurd g1 hc
          · exact absurd g2 hc
        · exact findIn_not a r h p x e
      · split at h
        · cases h
        · rename_i hs
          rcases List.mem_cons.1 hm with e | e
          · injection e with e1 e2
            subst e1 e2
            refine ⟨hc1, fun _ _ k hk he => ?_⟩
            unfold slotAt at hs
            have := List.find?_eq_none.1 hs k (List.mem_range.2 hk)
            have hk64 := (slots_lt hk).2
            simpa [he, bitOf, show k < 64 by omega] using this
          · exact findIn_not a r h p x e
theorem find_own {s : Slab} {o : Nat → Nat} (h : Own s o) {a r : Nat} (hp : Place s o a r) : ∃ p k, findH s a = some (p, k, getH s p) ∧ p ∈ s.keys ∧ o p = p ∧ a / 64 = p ∧ (((getH s p).kind = 2 ∧ a = p * 64 + 2) ∨ ((getH s p).kind = 1 ∧ k < classSlots (getH s p).n ∧ placeH p (getH s p).n k = a ∧ (getH s p).w.testBit k = true)) := by
  obtain ⟨q, hq⟩ := hp
  have hq64 := (hq.pos h).2.1
  have hqm : (q, getH s q) ∈ heads s := (h.mem_heads _).2 ⟨hq.1, hq.2.1, rfl⟩
  cases hf : findH s a with
  | none =>
    exfalso
    have := findIn_not a _ hf q _ hqm
    rcases hq.2.2 with ⟨f1, k, f2, f3, f4, f5⟩ | ⟨f1, f2, f3⟩
    · have := this.2 f1 hq64 k f2 f4.symm
      rw [this] at f3
      cases f3
    · exact this.1 ⟨f1, f2⟩
  | some t =>
    obtain ⟨p, k, x⟩ := t
    obtain ⟨hm, hx⟩ := findIn_is a _ hf
    obtain ⟨m1, m2, m3⟩ := (h.mem_heads _).1 hm
    simp only at m1 m2 m3
    subst m3
    refine ⟨p, k, rfl, m1, m2, ?_, hx⟩
    rcases hx with hx | hx
    · omega
    · obtain ⟨e1, e2, e3⟩ := slot_room (slots_lt hx.2.1).1 hx.2.1 p
      omega
theorem free_own {s : Slab} {o : Nat → Nat} (h : Own s o) {a r : Nat} (hp : Place s o a r) : ∃ s', freeH s a = (0, s') ∧ Freed s s' o a := by
  obtain ⟨p, k, hf, m1, m2, m3, hx⟩ := find_own h hp
  have hd := h.down p m1 m2
  obtain ⟨x, hxe⟩ : ∃ x, getH s p = x := ⟨_, rfl⟩
  have hwx := h.wf.getH_lt p
  rw [hxe] at hf hx hd hwx
  rcases hx with ⟨x1, x2⟩ | ⟨x1, x2, x3, x4⟩
  · have hsp : spanH x = x.n := by unfold spanH; rw [if_pos x1]
    obtain ⟨hok, dn⟩ := hd
    rw [hsp] at dn
    have hn : 1 ≤ x.n ∧ x.n ≤ 64 := by rcases hok with g | g <;> omega
    have hrel := release_ok h.wf hn.1 hn.2 fun j hj => (dn j hj).1
    obtain ⟨q1, q2, q3⟩ := own_less (n := x.n) h m1 m2 (by rw [hxe]; exact hsp)
    refine ⟨s.delRun p x.n, ?_, q1, ?_, q3, delRun_quota s p _, delRun_length s p _⟩
    · unfold freeH
      rw [hf]
      simp only [x1, if_true]
      exact hrel
    · intro a0 r0
      rw [q2]
      constructor
      · rintro ⟨g, hne⟩; exact ⟨g, fun e => hne (by rw [e]; exact m3)⟩
      · rintro ⟨g, hne⟩
        refine ⟨g, fun e => hne ?_⟩
        obtain ⟨q, hq⟩ := g
        have := (hq.pos h).2.1
        have e2 : q = p := by omega
        subst e2
        have g3 := hq.2.2
        rw [hxe] at g3
        rcases g3 with ⟨f1, _⟩ | ⟨f1, f2, f3⟩
        · omega
        · omega
  · have hc8 := (slots_lt x2).1
    have hk64 := (slots_lt x2).2
    obtain ⟨e1, e2, e3⟩ := slot_room hc8 x2 p
    obtain ⟨y, hy⟩ : ∃ y : Head, { x with w := bitClear x.w k } = y := ⟨_, rfl⟩
    have hy1 : y.kind = 1 := by rw [← hy]; exact x1
    have hyn : y.n = x.n := by rw [← hy]
    have hyw : y.w = bitClear x.w k := by rw [← hy]
    have hys : y.kind < 256 ∧ y.n < 256 := by rw [hy1, hyn]; omega
    have hywl : y.w < 18446744073709551616 := by rw [hyw]; exact Nat.lt_of_le_of_lt Nat.and_le_left hwx
    have hw1 : SlabWF (putH s p y) := putH_wf h.wf p hys.1 hys.2 hywl
    have hgp : getH (putH s p y) p = y := putH_get h.wf m1 hys.1 hys.2
    have hgq : ∀ q, q ≠ p → getH (putH s p y) q = getH s q := fun q hq => getH_congr fun b h1 h2 => putH_rd p y (by omega) (by omega)
    have hkeys := putH_keys s p y
    have hown : Own (putH s p y) o := by
      refine ⟨hw1, ?_, ?_⟩
      · intro q hq
        rw [hkeys] at hq ⊢
        have := h.up q hq
        by_cases e : o q = p
        · rw [e, hgp]
          rw [e, hxe] at this
          refine ⟨this.1, this.2.1, this.2.2.1, ?_⟩
          have h4 := this.2.2.2
          unfold spanH at h4 ⊢
          rw [hy1]
          rw [x1] at h4
          exact h4
        · rw [hgq _ e]; exact this
      · intro q hq hoq
        rw [hkeys] at hq ⊢
        have := h.down q hq hoq
        by_cases e : q = p
        · subst e
          rw [hgp]
          rw [hxe] at this
          refine ⟨Or.inl ⟨hy1, by rw [hyn]; exact hc8⟩, fun j hj => this.2 j ?_⟩
          unfold spanH at hj ⊢
          rw [hy1] at hj
          rw [x1]
          exact hj
        · rw [hgq _ e]; exact this
    have hpl : ∀ a0 r0, Place (putH s p y) o a0 r0 ↔ Place s o a0 r0 ∧ a0 ≠ a := by
      intro a0 r0
      constructor
      · rintro ⟨q, g1, g2, g3⟩
        rw [hkeys] at g1
        by_cases e : q = p
        · subst e
          rw [hgp] at g3
          rcases g3 with ⟨f1, k', f2, f3, f4, f5⟩ | ⟨f1, _⟩
          · rw [hyn] at f2 f4 f5
            rw [hyw, testBit_clear (by omega) (by have := (slots_lt f2).2; omega)] at f3
            simp only [Bool.and_eq_true, Bool.not_eq_true', decide_eq_false_iff_not] at f3
            refine ⟨⟨q, g1, g2, by rw [hxe]; exact Or.inl ⟨x1, k', f2, f3.1, f4, f5⟩⟩, ?_⟩
            intro e
            exact f3.2 (placeH_inj x2 f2 (x3.trans (e.symm.trans f4)))
          · omega
        · rw [hgq _ e] at g3
          have hq : PlaceAt s o q a0 r0 := ⟨g1, g2, g3⟩
          refine ⟨⟨q, hq⟩, ?_⟩
          have := (hq.pos h).2.1
          rintro rfl
          exact e (by omega)
      · rintro ⟨⟨q, hq⟩, hne⟩
        refine ⟨q, by rw [hkeys]; exact hq.1, hq.2.1, ?_⟩
        by_cases e : q = p
        · subst e
          rw [hgp]
          have g3 := hq.2.2
          rw [hxe] at g3
          rcases g3 with ⟨f1, k', f2, f3, f4, f5⟩ | ⟨f1, _⟩
          · refine Or.inl ⟨hy1, k', by rw [hyn]; exact f2, ?_, by rw [hyn]; exact f4, by rw [hyn]; exact f5⟩
            rw [hyw, testBit_clear (by omega) (by have := (slots_lt f2).2; omega), f3]
            have : k ≠ k' := by rintro rfl; exact hne (f4.trans x3)
            simp [this]
          · omega
        · rw [hgq _ e]; exact hq.2.2
    have hrd : ∀ a0 r0 b, Place (putH s p y) o a0 r0 → b < r0 → (putH s p y).rd (a0 + b) = s.rd (a0 + b) := by
      intro a0 r0 b hq hb
      obtain ⟨q, hq⟩ := ((hpl a0 r0).1 hq).1
      have hh := fun e => hq.not_head h (b := b) hb m2 e
      refine putH_rd p y ?_ ?_
      · intro e; have := hh (by omega); omega
      · intro e; have := hh (by omega); omega
    have hfr : freeH s a = (0, leaveH s p k) := by
      unfold freeH
      rw [hf]
      simp only
      rw [if_neg (by omega)]
    by_cases hz : y = ⟨1, x.n, 0⟩
    · have hsp : spanH (getH (putH s p y) p) = 1 := by rw [hgp, hz]; rfl
      obtain ⟨q1, q2, q3⟩ := own_less hown (p := p) (n := 1) (by rw [hkeys]; exact m1) m2 hsp
      have hrel := release_ok hw1 (p := p) (n := 1) (by omega) (by omega) fun j hj => by
        obtain rfl : j = 0 := by omega
        rw [hkeys]; exact m1
      refine ⟨(putH s p y).delRun p 1, ?_, q1, ?_, ?_, ?_, ?_⟩
      · rw [hfr]
        unfold leaveH
        simp only [hxe, hy]
        rw [if_pos hz, hrel]
      · intro a0 r0
        rw [q2, hpl]
        constructor
        · rintro ⟨g, _⟩; exact g
        · intro g
          refine ⟨g, fun e => ?_⟩
          obtain ⟨q, hq⟩ := (hpl a0 r0).2 g
          have := (hq.pos hown).2.1
          have e2 : q = p := by omega
          subst e2
          have g3 := hq.2.2
          rw [hgp, hz] at g3
          rcases g3 with ⟨_, k', _, f, _⟩ | ⟨f, _⟩
          · simp at f
          · cases f
      · intro a0 r0 b hq hb
        rw [q3 a0 r0 b hq hb]
        exact hrd a0 r0 b ((q2 a0 r0).1 hq).1 hb
      · rw [delRun_quota, putH_quota]
      · exact Nat.le_trans (delRun_length _ _ _) (by rw [putH_length]; exact Nat.le_refl _)
    · refine ⟨putH s p y, ?_, hown, hpl, hrd, putH_quota s p y, by rw [putH_length]; exact Nat.le_refl _⟩
      rw [hfr]
      unfold leaveH
      simp only [hxe, hy]
      rw [if_neg hz]
end Go.Proofs.YtepdkbmnkjfcpaaGreatDoor
