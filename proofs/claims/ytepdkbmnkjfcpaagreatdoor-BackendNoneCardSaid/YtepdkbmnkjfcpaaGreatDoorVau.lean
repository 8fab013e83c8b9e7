/- The store as records by handles: what Make, Len, Get, Put, Drop do to them: plain. Texts and nodes as records: plain. Trees of nodes in a store; rotations; trees balanced by their heights, joined: plain. Trees balanced by their heights: join; trees of a kind that is joined: split, insert: plain. -/
import Derived.Test.YtepdkbmnkjfcpaaGreatDoorVat
import Derived.Test.YtepdkbmnkjfcpaaGreatDoorVak
import Derived.Test.YtepdkbmnkjfcpaaGreatDoorVal
import Derived.OwnWalk
set_option maxRecDepth 100000
namespace Go.Proofs.YtepdkbmnkjfcpaaGreatDoor
open Lf
structure Fit (S : St) (o : Nat → Nat) : Prop where
  own : Own S.a o
  tab : TabWF S.t
  live : ∀ (i : Nat) (x : Slot), S.t.slots[i]? = some x → x.is = 1 → ∃ r, Place S.a o x.addr r ∧ S.a.rd (x.addr + 1) + 2 ≤ r ∧ S.a.rd (x.addr + 1) ≤ 3998
  inj : ∀ (i j : Nat) (x y : Slot), S.t.slots[i]? = some x → S.t.slots[j]? = some y → x.is = 1 → y.is = 1 → x.addr = y.addr → i = j
theorem Fit.inv {S : St} {o : Nat → Nat} (h : Fit S o) : Inv S where
  len i hi h1 := by
    obtain ⟨r, h2, h3, h4⟩ := h.live i _ (List.getElem?_eq_getElem hi) h1
    have := (h2.ok h.own (b := 0) (by omega)).2.1
    unfold lastAddr at this
    exact ⟨h4, by omega⟩
  apart i j hi hj hne h1 h2 := by
    obtain ⟨r, g2, g3, g4⟩ := h.live i _ (List.getElem?_eq_getElem hi) h1
    obtain ⟨r', f2, f3, f4⟩ := h.live j _ (List.getElem?_eq_getElem hj) h2
    rcases Place.apart h.own g2 f2 with hq | hq | hq
    · exact absurd (h.inj i j _ _ (List.getElem?_eq_getElem hi) (List.getElem?_eq_getElem hj) h1 h2 hq.1) hne
    · left; omega
    · right; omega
theorem of_name {t : Tab} (ht : TabWF t) {h k : Nat} : t.of h = some k ↔ ∃ x : Slot, t.slots[k]? = some x ∧ x.is = 1 ∧ h = nameOf x.gen k := by
  unfold Tab.of nameOf
  constructor
  · intro hh
    simp only at hh
    split at hh
    · cases hh
    · split at hh
      · cases hh
      · rename_i x hx
        split at hh
        · rename_i hc
          have := Option.some.inj hh
          subst this
          exact ⟨x, hx, hc.1, by rw [hc.2]; omega⟩
        · cases hh
  · rintro ⟨x, hx, h1, rfl⟩
    have hk : k < t.slots.length := (List.getElem?_eq_some_iff.1 hx).1
    have hl := ht.len
    have hm := ht.most.2
    have e1 : (x.gen * 4294967296 + (k + 1)) % 4294967296 = k + 1 := by omega
    have e2 : (x.gen * 4294967296 + (k + 1)) / 4294967296 = x.gen := by omega
    simp only [e1, e2]
    rw [if_neg (by omega), Nat.add_sub_cancel, hx]
    simp only [h1, and_self, if_true]
def Lf.reco (S : St) (h : Nat) : Option (List Nat) :=
  match S.t.of h with
  | none => none
  | some k => some ((List.range (S.a.rd ((S.t.slots.getD k ⟨0, 0, 0⟩).addr + 1))).map fun j => S.a.rd ((S.t.slots.getD k ⟨0, 0, 0⟩).addr + 2 + j))
def wordsAt (s : Slab) (a : Nat) : List Nat := (List.range (s.rd (a + 1))).map fun j => s.rd (a + 2 + j)
theorem wordsAt_length (s : Slab) (a : Nat) : (wordsAt s a).length = s.rd (a + 1) := by simp [wordsAt]
theorem wordsAt_get {s : Slab} {a k : Nat} (h : k < s.rd (a + 1)) : (wordsAt s a).getD k 0 = s.rd (a + 2 + k) := by
  unfold wordsAt
  rw [List.getD_eq_getElem?_getD, List.getElem?_map, List.getElem?_range h]
  rfl
theorem look_iff {S : St} (ht : TabWF S.t) {h : Nat} {ws : List Nat} : reco S h = some ws ↔ ∃ (k : Nat) (x : Slot), S.t.slots[k]? = some x ∧ x.is = 1 ∧ h = nameOf x.gen k ∧ ws = wordsAt S.a x.addr := by
  unfold reco
  constructor
  · intro hh
    split at hh
    · cases hh
    · rename_i k hk
      obtain ⟨x, hx, h1, h2⟩ := (of_name ht).1 hk
      refine ⟨k, x, hx, h1, h2, ?_⟩
      have e : S.t.slots.getD k ⟨0, 0, 0⟩ = x := by rw [List.getD_eq_getElem?_getD, hx]; rfl
      rw [e] at hh
      exact (Option.some.inj hh).symm
  · rintro ⟨k, x, hx, h1, h2, rfl⟩
    rw [(of_name ht).2 ⟨x, hx, h1, h2⟩]
    have e : S.t.slots.getD k ⟨0, 0, 0⟩ = x := by rw [List.getD_eq_getElem?_getD, hx]; rfl
    simp only [e]
    rfl
theorem look_ext {S S' : St} {h : Nat} (he : ∀ ws, reco S h = some ws ↔ reco S' h = some ws) : reco S' h = reco S h := by
  cases h1 : reco S h with
  | some ws => exact (he ws).1 h1
  | none =>
    cases h2 : reco S' h with
    | none => rfl
    | some ws => rw [(he ws).2 h2] at h1; cases h1
theorem look_len {S : St} (ht : TabWF S.t) {h : Nat} {ws : List Nat} (hl : reco S h = some ws) : S.len h = (ws.length, 0) := by
  obtain ⟨k, x, hx, h1, h2, rfl⟩ := (look_iff ht).1 hl
  have hk : k < S.t.slots.length := (List.getElem?_eq_some_iff.1 hx).1
  have hxe : S.t.slots[k] = x := by have := List.getElem?_eq_getElem hk; rw [hx] at this; exact (Option.some.inj this).symm
  unfold St.len
  rw [St.at_some ((of_name ht).2 ⟨x, hx, h1, h2⟩) hk, hxe, wordsAt_length]
theorem look_none {S : St} {h : Nat} (hl : reco S h = none) : S.len h = (0, 7) := by
  unfold reco at hl
  split at hl
  · rename_i e; unfold St.len; rw [St.at_none e]
  · cases hl
theorem look_get {S : St} {o : Nat → Nat} (hf : Fit S o) {h : Nat} {ws : List Nat} (hl : reco S h = some ws) {k : Nat} (hk : k < ws.length) : S.get h k = (ws.getD k 0, 0) := by
  obtain ⟨i, x, hx, h1, h2, rfl⟩ := (look_iff hf.tab).1 hl
  have hi : i < S.t.slots.length := (List.getElem?_eq_some_iff.1 hx).1
  have hxe : S.t.slots[i] = x := by have := List.getElem?_eq_getElem hi; rw [hx] at this; exact (Option.some.inj this).symm
  rw [wordsAt_length] at hk
  obtain ⟨r, g1, g2, g3⟩ := hf.live i x hx h1
  have hok := g1.ok hf.own (b := 2 + k) (by omega)
  unfold St.get
  rw [St.at_some ((of_name hf.tab).2 ⟨x, hx, h1, h2⟩) hi, hxe]
  simp only
  rw [if_pos hk, wordsAt_get hk]
  rw [← Nat.add_assoc] at hok
  rw [hok.1]
theorem look_ok {S : St} {o : Nat → Nat} (hf : Fit S o) {h : Nat} {ws : List Nat} (hl : reco S h = some ws) : 0 < h ∧ h < 18446744073709551616 ∧ ws.length ≤ 3998 ∧ ∀ v ∈ ws, v < 18446744073709551616 := by
  obtain ⟨i, x, hx, h1, rfl, rfl⟩ := (look_iff hf.tab).1 hl
  have hi : i < S.t.slots.length := (List.getElem?_eq_some_iff.1 hx).1
  have hl := hf.tab.len
  have hm := hf.tab.most.2
  have hg := (hf.tab.slot x (List.mem_of_getElem? hx)).2.1
  obtain ⟨r, g1, g2, g3⟩ := hf.live i x hx h1
  refine ⟨by unfold nameOf; omega, by unfold nameOf; omega, by rw [wordsAt_length]; exact g3, fun v hv => ?_⟩
  unfold wordsAt at hv
  obtain ⟨j, _, rfl⟩ := List.mem_map.1 hv
  exact hf.own.wf.rd_lt _
structure Grew (S S' : St) (p q : Nat) : Prop where
  quota : S'.a.quota = S.a.quota
  most : S'.t.most = S.t.most
  last : S'.t.last = S.t.last
  pages : S'.a.pages.length ≤ S.a.pages.length + p
  slots : S'.t.slots.length ≤ S.t.slots.length + q
theorem Grew.refl (S : St) : Grew S S 0 0 := ⟨rfl, rfl, rfl, Nat.le_refl _, Nat.le_refl _⟩
theorem Grew.trans {S T U : St} {p q p' q' : Nat} (h : Grew S T p q) (k : Grew T U p' q') : Grew S U (p + p') (q + q') :=
  ⟨k.quota.trans h.quota, k.most.trans h.most, k.last.trans h.last, by have := h.pages; have := k.pages; omega, by have := h.slots; have := k.slots; omega⟩
theorem Grew.mono {S S' : St} {p q p' q' : Nat} (h : Grew S S' p q) (hp : p ≤ p') (hq : q ≤ q') : Grew S S' p' q' :=
  ⟨h.quota, h.most, h.last, by have := h.pages; omega, by have := h.slots; omega⟩
theorem look_put {S : St} {o : Nat → Nat} (hf : Fit S o) {h : Nat} {ws : List Nat} (hl : reco S h = some ws) {k x : Nat} (hk : k < ws.length) (hx : x < 18446744073709551616) :
    ∃ S', S.put h k x = (0, S') ∧ Fit S' o ∧ reco S' h = some (ws.set k x) ∧ (∀ h', h' ≠ h → reco S' h' = reco S h') ∧ Grew S S' 0 0 := by
  obtain ⟨i, y, hy, h1, h2, rfl⟩ := (look_iff hf.tab).1 hl
  have hi : i < S.t.slots.length := (List.getElem?_eq_some_iff.1 hy).1
  have hye : S.t.slots[i] = y := by have := List.getElem?_eq_getElem hi; rw [hy] at this; exact (Option.some.inj this).symm
  rw [wordsAt_length] at hk
  obtain ⟨r, g1, g2, g3⟩ := hf.live i y hy h1
  have hok := g1.ok hf.own (b := 2 + k) (by omega)
  obtain ⟨hown, hpl⟩ := hf.own.wr g1 (b := 2 + k) (x := x) (by omega) hx
  rw [← Nat.add_assoc] at hok hown hpl
  have hS : S.put h k x = (0, ⟨S.a.wr (y.addr + 2 + k) x, S.t⟩) := by
    unfold St.put
    rw [St.at_some ((of_name hf.tab).2 ⟨y, hy, h1, h2⟩) hi, hye]
    simp only
    rw [if_pos hk, hok.1]
  have hap : ∀ (j : Nat) (z : Slot), S.t.slots[j]? = some z → z.is = 1 → j ≠ i → ∀ b, b < 2 + S.a.rd (z.addr + 1) → (S.a.wr (y.addr + 2 + k) x).rd (z.addr + b) = S.a.rd (z.addr + b) := by
    intro j z hz hz1 hne b hb
    obtain ⟨r', f1, f2, f3⟩ := hf.live j z hz hz1
    refine Slab.rd_wr_ne _ _ _ _ ?_
    rcases Place.apart hf.own f1 g1 with hq | hq | hq
    · exact absurd (hf.inj j i z y hz hy hz1 h1 hq.1) hne
    · omega
    · omega
  have hself : (S.a.wr (y.addr + 2 + k) x).rd (y.addr + 1) = S.a.rd (y.addr + 1) := Slab.rd_wr_ne _ _ _ _ (by omega)
  refine ⟨_, hS, ⟨hown, hf.tab, ?_, hf.inj⟩, ?_, ?_, ⟨rfl, rfl, rfl, by show (Slab.wr _ _ _).pages.length ≤ _; rw [pages_wr_length]; exact Nat.le_refl _, Nat.le_refl _⟩⟩
  · intro j z hz hz1
    obtain ⟨r', f1, f2, f3⟩ := hf.live j z hz hz1
    refine ⟨r', hpl _ _ f1, ?_⟩
    by_cases e : j = i
    · subst e
      have hz : S.t.slots[j]? = some z := hz
      rw [hy] at hz
      injection hz with hz
      subst hz
      show (S.a.wr (y.addr + 2 + k) x).rd (y.addr + 1) + 2 ≤ r' ∧ (S.a.wr (y.addr + 2 + k) x).rd (y.addr + 1) ≤ 3998
      rw [hself]; exact ⟨f2, f3⟩
    · show (S.a.wr (y.addr + 2 + k) x).rd (z.addr + 1) + 2 ≤ r' ∧ (S.a.wr (y.addr + 2 + k) x).rd (z.addr + 1) ≤ 3998
      rw [hap j z hz hz1 e 1 (by omega)]; exact ⟨f2, f3⟩
  · refine (look_iff (S := ⟨S.a.wr (y.addr + 2 + k) x, S.t⟩) hf.tab).2 ⟨i, y, hy, h1, h2, ?_⟩
    refine List.ext_getElem? fun j => ?_
    show _ = (wordsAt (S.a.wr (y.addr + 2 + k) x) y.addr)[j]?
    unfold wordsAt
    rw [hself]
    by_cases hj : j < S.a.rd (y.addr + 1)
    · rw [List.getElem?_map, List.getElem?_range hj]
      by_cases e : k = j
      · subst e
        rw [List.getElem?_set_self (by simp; exact hk)]
        show some x = some ((S.a.wr (y.addr + 2 + k) x).rd (y.addr + 2 + k))
        rw [rd_wr_eq hf.own.wf hok.2.2]
      · rw [List.getElem?_set_ne e, List.getElem?_map, List.getElem?_range hj]
        show some _ = some ((S.a.wr (y.addr + 2 + k) x).rd (y.addr + 2 + j))
        rw [Slab.rd_wr_ne _ _ _ _ (by omega)]
    · rw [List.getElem?_eq_none (by simp; omega), List.getElem?_eq_none (by simp; omega)]
  · intro h' hne
    refine look_ext (S' := ⟨S.a.wr (y.addr + 2 + k) x, S.t⟩) fun ws' => ?_
    have hw : ∀ (j : Nat) (z : Slot), S.t.slots[j]? = some z → z.is = 1 → h' = nameOf z.gen j → wordsAt (S.a.wr (y.addr + 2 + k) x) z.addr = wordsAt S.a z.addr := by
      intro j z hz hz1 he
      have hji : j ≠ i := by
        rintro rfl
        rw [hy] at hz
        injection hz with hz
        subst hz
        exact hne (he.trans h2.symm)
      unfold wordsAt
      rw [hap j z hz hz1 hji 1 (by omega)]
      refine List.map_congr_left fun b hb => ?_
      have hb := List.mem_range.1 hb
      have := hap j z hz hz1 hji (2 + b) (by omega)
      rw [← Nat.add_assoc] at this
      exact this
    rw [look_iff hf.tab, look_iff (S := ⟨S.a.wr (y.addr + 2 + k) x, S.t⟩) hf.tab]
    constructor
    · rintro ⟨j, z, q1, q2, q3, q4⟩
      exact ⟨j, z, q1, q2, q3, by rw [q4]; exact (hw j z q1 q2 q3).symm⟩
    · rintro ⟨j, z, q1, q2, q3, q4⟩
      exact ⟨j, z, q1, q2, q3, by rw [q4]; exact hw j z q1 q2 q3⟩
theorem look_putWords {o : Nat → Nat} {h : Nat} : ∀ (l : List Nat) {S : St} {ws : List Nat} {k : Nat}, Fit S o → reco S h = some ws → k + l.length ≤ ws.length → (∀ v ∈ l, v < 18446744073709551616) →
    Fit (putWords S h k l) o ∧ reco (putWords S h k l) h = some (ws.take k ++ l ++ ws.drop (k + l.length)) ∧ (∀ h', h' ≠ h → reco (putWords S h k l) h' = reco S h') ∧ Grew S (putWords S h k l) 0 0
  | [], S, ws, k, hf, hl, hk, hv => by
    refine ⟨hf, ?_, fun _ _ => rfl, Grew.refl S⟩
    show reco S h = _
    rw [hl]; simp
  | x :: r, S, ws, k, hf, hl, hk, hv => by
    simp only [List.length_cons] at hk
    obtain ⟨S', e, hf', hl', ho', hg'⟩ := look_put hf hl (k := k) (x := x) (by omega) (hv x (List.mem_cons_self ..))
    obtain ⟨q1, q2, q3, q4⟩ := look_putWords r hf' hl' (k := k + 1) (by rw [List.length_set]; omega) (fun v hm => hv v (List.mem_cons_of_mem _ hm))
    have e2 : putWords S h k (x :: r) = putWords S' h (k + 1) r := by
      show putWords (S.put h k x).2 h (k + 1) r = _
      rw [e]
    rw [e2]
    refine ⟨q1, ?_, fun h' hn => (q3 h' hn).trans (ho' h' hn), (hg'.trans q4).mono (by omega) (by omega)⟩
    rw [q2]
    congr 1
    have hk2 : k < ws.length := by omega
    rw [List.drop_set_of_lt (by omega), List.take_set, List.take_add_one, List.getElem?_eq_getElem hk2]
    simp only [Option.toList_some, List.length_cons]
    rw [List.set_append_right _ _ (by simp; omega)]
    have : k - (ws.take k).length = 0 := by simp; omega
    rw [this]
    simp only [List.set_cons_zero, List.append_assoc, List.cons_append, List.nil_append]
    rw [show k + 1 + r.length = k + (r.length + 1) by omega]
theorem look_putAll {S : St} {o : Nat → Nat} {h : Nat} {l ws : List Nat} (hf : Fit S o) (hl : reco S h = some ws) (hk : l.length = ws.length) (hv : ∀ v ∈ l, v < 18446744073709551616) :
    Fit (putWords S h 0 l) o ∧ reco (putWords S h 0 l) h = some l ∧ (∀ h', h' ≠ h → reco (putWords S h 0 l) h' = reco S h') ∧ Grew S (putWords S h 0 l) 0 0 := by
  have := look_putWords l hf hl (k := 0) (by omega) hv
  rw [List.take_zero, List.nil_append, List.drop_eq_nil_of_le (by omega), List.append_nil] at this
  exact this
theorem firstFree_spec : ∀ (l : List Slot) (k0 : Nat), ∃ k, firstFree l k0 = k0 + k ∧ k ≤ l.length ∧ (∀ x : Slot, l[k]? = some x → x.is = 0)
  | [], k0 => ⟨0, rfl, Nat.le_refl _, by simp⟩
  | y :: r, k0 => by
    unfold firstFree
    by_cases h : y.is = 0
    · rw [if_pos h]
      exact ⟨0, rfl, by omega, fun x hx => by simp at hx; rw [← hx]; exact h⟩
    · rw [if_neg h]
      obtain ⟨k, h1, h2, h3⟩ := firstFree_spec r (k0 + 1)
      exact ⟨k + 1, by rw [h1]; omega, by simp only [List.length_cons]; omega, fun x hx => h3 x (by simpa using hx)⟩
def Space (S : St) (p q : Nat) : Prop := (S.a.pages.length + p) * 64 ≤ S.a.quota ∧ S.t.slots.length + q ≤ S.t.most
theorem Space.grew {S S' : St} {p q p' q' : Nat} (h : Space S (p + p') (q + q')) (hg : Grew S S' p q) : Space S' p' q' := by
  obtain ⟨h1, h2⟩ := h
  obtain ⟨g1, g2, _, g4, g5⟩ := hg
  refine ⟨?_, by rw [g2]; omega⟩
  rw [g1]
  refine Nat.le_trans (Nat.mul_le_mul_right 64 ?_) h1
  omega
theorem Space.mono {S : St} {p q p' q' : Nat} (h : Space S p q) (hp : p' ≤ p) (hq : q' ≤ q) : Space S p' q' :=
  ⟨Nat.le_trans (Nat.mul_le_mul_right 64 (by omega)) h.1, by have := h.2; omega⟩
theorem make_fit {S : St} {o : Nat → Nat} (hf : Fit S o) {n : Nat} (hn : n ≤ 3998) (hr : Space S (classPages (n + 2)) 1) :
    ∃ h S' o' ws, S.make n = ((h, 0), S') ∧ Fit S' o' ∧ reco S h = none ∧ ws.length = n ∧ reco S' h = some ws ∧ (∀ h', h' ≠ h → reco S' h' = reco S h') ∧ Grew S S' (classPages (n + 2)) 1 ∧ (S.t.open (allocH S.a (n + 2)).1.1).1.2 = 0 := by
  obtain ⟨a, s', o', r, ea, T, hnr, hpl⟩ := alloc_own hf.own (n := n + 2) (by omega) (by omega) hr.1
  obtain ⟨k, hk1, hk2, hk3⟩ := firstFree_spec S.t.slots 0
  rw [Nat.zero_add] at hk1
  have hkm : k ≠ S.t.most := by have := hr.2; omega
  have hm := hf.tab.most.2
  have hlen := hf.tab.len
  obtain ⟨l, hl⟩ : ∃ l, (if k = S.t.slots.length then S.t.slots ++ [⟨0, 0, 0⟩] else S.t.slots) = l := ⟨_, rfl⟩
  have hlk : k < l.length := by
    rw [← hl]
    split
    · simp only [List.length_append, List.length_cons, List.length_nil]; omega
    · omega
  have hll : l.length ≤ S.t.slots.length + 1 := by rw [← hl]; split <;> simp
  have hlm : l.length ≤ S.t.most := by
    rw [← hl]; split
    · have := hr.2; simp; omega
    · exact hlen
  have hlg : ∀ i : Nat, i ≠ k → l[i]? = S.t.slots[i]? := by
    intro i hi
    rw [← hl]
    split
    · rename_i e
      rcases Nat.lt_or_ge i S.t.slots.length with h | h
      · rw [List.getElem?_append_left h]
      · rw [List.getElem?_append_right h, List.getElem?_eq_none h, List.getElem?_eq_none (by simp; omega)]
    · rfl
  obtain ⟨g, hg⟩ : ∃ g, (S.t.genAt k + 1) % 4294967296 = g := ⟨_, rfl⟩
  have hgl : g < 4294967296 := by rw [← hg]; omega
  obtain ⟨h, hh⟩ : ∃ h, nameOf g k = h := ⟨_, rfl⟩
  have hhl : h < 18446744073709551616 := by rw [← hh]; unfold nameOf; omega
  have hop : S.t.open a = ((h, 0), { S.t with slots := l.set k ⟨1, g, a⟩ }) := by
    unfold Tab.open
    simp only [hk1]
    rw [if_neg hkm]
    simp only [hl, hg, hh]
  have hnew := (T.pl a r).2 (Or.inr ⟨rfl, rfl⟩)
  obtain ⟨hw1, hp1⟩ := T.own.wr hnew (b := 0) (x := h) (by omega) hhl
  rw [Nat.add_zero] at hw1 hp1
  obtain ⟨hw2, hp2⟩ := hw1.wr (hp1 _ _ hnew) (b := 1) (x := n) (by omega) (by omega)
  have hmk : S.make n = ((h, 0), ⟨(s'.wr a h).wr (a + 1) n, { S.t with slots := l.set k ⟨1, g, a⟩ }⟩) := by
    unfold St.make
    rw [if_neg (by omega), ea]
    simp only [hop]
  have hrd : ∀ a0 r0 b, Place S.a o a0 r0 → b < r0 → ((s'.wr a h).wr (a + 1) n).rd (a0 + b) = S.a.rd (a0 + b) := by
    intro a0 r0 b hq hb
    have hap := Place.apart T.own ((T.pl a0 r0).2 (Or.inl hq)) hnew
    have hne : a0 ≠ a := by rintro rfl; exact T.fresh _ hq
    rw [Slab.rd_wr_ne _ _ _ _ (by omega), Slab.rd_wr_ne _ _ _ _ (by omega)]
    exact T.rd a0 r0 b hq hb
  have hlen' : ((s'.wr a h).wr (a + 1) n).rd (a + 1) = n := rd_wr_eq hw1.wf (by rw [keys_wr]; exact (hnew.ok T.own (b := 1) (by omega)).2.2) _
  have hsl : ∀ (i : Nat) (x : Slot), (l.set k ⟨1, g, a⟩)[i]? = some x → (i = k ∧ x = ⟨1, g, a⟩) ∨ (i ≠ k ∧ S.t.slots[i]? = some x) := by
    intro i x hx
    by_cases e : i = k
    · subst e
      rw [List.getElem?_set_self hlk] at hx
      exact Or.inl ⟨rfl, (Option.some.inj hx).symm⟩
    · rw [List.getElem?_set_ne (fun h => e h.symm), hlg i e] at hx
      exact Or.inr ⟨e, hx⟩
  have hsk : (l.set k ⟨1, g, a⟩)[k]? = some ⟨1, g, a⟩ := List.getElem?_set_self hlk
  have hso : ∀ i : Nat, i ≠ k → (l.set k (⟨1, g, a⟩ : Slot))[i]? = S.t.slots[i]? := fun i e => by rw [List.getElem?_set_ne (fun h => e h.symm), hlg i e]
  have haddr : a ≤ 4611686018427387903 := by have := (hnew.ok T.own (b := 0) (by omega)).2.1; unfold lastAddr at this; omega
  have htab : TabWF { S.t with slots := l.set k ⟨1, g, a⟩ } := by
    refine ⟨hf.tab.most, hf.tab.last, by simp only [List.length_set]; exact hlm, fun x hx => ?_⟩
    obtain ⟨i, hi⟩ := List.getElem?_of_mem hx
    rcases hsl i x hi with ⟨_, e⟩ | ⟨_, e⟩
    · subst e; exact ⟨by show 1 ≤ 2; decide, hgl, haddr⟩
    · exact hf.tab.slot x (List.mem_of_getElem? e)
  have hfit : Fit ⟨(s'.wr a h).wr (a + 1) n, { S.t with slots := l.set k ⟨1, g, a⟩ }⟩ o' := by
    refine ⟨hw2, htab, ?_, ?_⟩
    · intro i x hx h1
      rcases hsl i x hx with ⟨_, e⟩ | ⟨_, e⟩
      · subst e
        refine ⟨r, hp2 _ _ (hp1 _ _ hnew), ?_⟩
        simp only
        rw [hlen']
        omega
      · obtain ⟨r0, f1, f2, f3⟩ := hf.live i x e h1
        refine ⟨r0, hp2 _ _ (hp1 _ _ ((T.pl _ _).2 (Or.inl f1))), ?_⟩
        simp only
        rw [hrd _ _ 1 f1 (by omega)]
        exact ⟨f2, f3⟩
    · intro i j x y hx hy h1 h2 he
      rcases hsl i x hx with ⟨e1, e⟩ | ⟨e1, e⟩
      · rcases hsl j y hy with ⟨e2, e'⟩ | ⟨e2, e'⟩
        · rw [e1, e2]
        · subst e
          obtain ⟨r0, f1, _⟩ := hf.live j y e' h2
          rw [← he] at f1
          exact absurd f1 (T.fresh _)
      · rcases hsl j y hy with ⟨e2, e'⟩ | ⟨e2, e'⟩
        · subst e'
          obtain ⟨r0, f1, _⟩ := hf.live i x e h1
          rw [he] at f1
          exact absurd f1 (T.fresh _)
        · exact hf.inj i j x y e e' h1 h2 he
  have hno : reco S h = none := by
    cases hq : reco S h with
    | none => rfl
    | some ws =>
      exfalso
      obtain ⟨i, x, hx, h1, h2, _⟩ := (look_iff hf.tab).1 hq
      have hi : i < S.t.slots.length := (List.getElem?_eq_some_iff.1 hx).1
      have e : i = k := by rw [← hh] at h2; unfold nameOf at h2; omega
      subst e
      have := hk3 x hx
      omega
  refine ⟨h, _, o', wordsAt ((s'.wr a h).wr (a + 1) n) a, hmk, hfit, hno, by rw [wordsAt_length, hlen'], ?_, ?_, ?_, ?_⟩
  · exact (look_iff htab).2 ⟨k, _, hsk, rfl, hh.symm, rfl⟩
  · intro h' hne
    refine look_ext fun ws => ?_
    rw [look_iff hf.tab, look_iff htab]
    have hw : ∀ (i : Nat) (x : Slot), S.t.slots[i]? = some x → x.is = 1 → wordsAt ((s'.wr a h).wr (a + 1) n) x.addr = wordsAt S.a x.addr := by
      intro i x hx h1
      obtain ⟨r0, f1, f2, f3⟩ := hf.live i x hx h1
      unfold wordsAt
      rw [hrd _ _ 1 f1 (by omega)]
      refine List.map_congr_left fun b hb => ?_
      have hb := List.mem_range.1 hb
      have := hrd _ _ (2 + b) f1 (by omega)
      rw [← Nat.add_assoc] at this
      exact this
    constructor
    · rintro ⟨i, x, hx, h1, h2, h3⟩
      have hik : i ≠ k := by rintro rfl; have := hk3 x hx; omega
      exact ⟨i, x, (hso i hik).trans hx, h1, h2, by rw [h3]; exact (hw i x hx h1).symm⟩
    · rintro ⟨i, x, hx, h1, h2, h3⟩
      rcases hsl i x hx with ⟨e1, e⟩ | ⟨e1, e⟩
      · subst e1 e
        exact absurd (h2.trans hh) hne
      · exact ⟨i, x, e, h1, h2, by rw [h3]; exact hw i x e h1⟩
  · refine ⟨T.quota, rfl, rfl, ?_, ?_⟩
    · show (Slab.wr _ _ _).pages.length ≤ _
      rw [pages_wr_length, pages_wr_length]
      exact hpl
    · simp only [List.length_set]; exact hll
  · rw [ea]
    simp only [hop]
theorem make_ok {S : St} {o : Nat → Nat} (hf : Fit S o) {n : Nat} (hn : n ≤ 3998) (hr : Space S (classPages (n + 2)) 1) : MkOk S n := by
  obtain ⟨h, S', o', ws, e, hf', _, _, _, _, _, ho⟩ := make_fit hf hn hr
  exact ⟨ho, by rw [e]; exact hf'.inv⟩
theorem look_drop {S : St} {o : Nat → Nat} (hf : Fit S o) {h : Nat} {ws : List Nat} (hl : reco S h = some ws) :
    ∃ S', S.drop h = (0, S') ∧ Fit S' o ∧ reco S' h = none ∧ (∀ h', h' ≠ h → reco S' h' = reco S h') ∧ Grew S S' 0 0 := by
  obtain ⟨k, x, hx, h1, h2, rfl⟩ := (look_iff hf.tab).1 hl
  have hk : k < S.t.slots.length := (List.getElem?_eq_some_iff.1 hx).1
  have hxe : S.t.slots[k] = x := by have := List.getElem?_eq_getElem hk; rw [hx] at this; exact (Option.some.inj this).symm
  have hof := (of_name hf.tab).2 ⟨x, hx, h1, h2⟩
  obtain ⟨r, g1, g2, g3⟩ := hf.live k x hx h1
  obtain ⟨s', es, F⟩ := free_own hf.own g1
  obtain ⟨z, hz⟩ : ∃ z : Nat, (if x.gen = S.t.last then 2 else 0) = z := ⟨_, rfl⟩
  have hz1 : z ≠ 1 ∧ z ≤ 2 := by rw [← hz]; split <;> omega
  have hcl : S.t.close h = (0, { S.t with slots := S.t.slots.set k { x with is := z } }) := by
    rw [Tab.close_some hof hk, hxe, hz]
  have hsl : ∀ (i : Nat) (y : Slot), (S.t.slots.set k { x with is := z })[i]? = some y → y.is = 1 → i ≠ k ∧ S.t.slots[i]? = some y := by
    intro i y hy hy1
    by_cases e : i = k
    · subst e
      rw [List.getElem?_set_self hk] at hy
      injection hy with hy
      rw [← hy] at hy1
      exact absurd hy1 hz1.1
    · rw [List.getElem?_set_ne (fun h => e h.symm)] at hy
      exact ⟨e, hy⟩
  have hso : ∀ i : Nat, i ≠ k → (S.t.slots.set k { x with is := z })[i]? = S.t.slots[i]? := fun i e => List.getElem?_set_ne (fun h => e h.symm)
  have hne : ∀ (i : Nat) (y : Slot), S.t.slots[i]? = some y → y.is = 1 → i ≠ k → y.addr ≠ x.addr := fun i y hy hy1 hi e => hi (hf.inj i k y x hy hx hy1 h1 e)
  have htab : TabWF { S.t with slots := S.t.slots.set k { x with is := z } } := by
    refine ⟨hf.tab.most, hf.tab.last, by simp only [List.length_set]; exact hf.tab.len, fun y hy => ?_⟩
    obtain ⟨i, hi⟩ := List.getElem?_of_mem hy
    by_cases e : i = k
    · subst e
      rw [List.getElem?_set_self hk] at hi
      injection hi with hi
      rw [← hi]
      have := hf.tab.slot x (List.mem_of_getElem? hx)
      exact ⟨hz1.2, this.2⟩
    · rw [hso i e] at hi
      exact hf.tab.slot y (List.mem_of_getElem? hi)
  have hdrop : S.drop h = (0, ⟨s', { S.t with slots := S.t.slots.set k { x with is := z } }⟩) := by
    unfold St.drop
    rw [St.at_some hof hk, hxe]
    simp only [hcl, es]
  have hfit : Fit ⟨s', { S.t with slots := S.t.slots.set k { x with is := z } }⟩ o := by
    refine ⟨F.own, htab, ?_, ?_⟩
    · intro i y hy hy1
      obtain ⟨hi, hy⟩ := hsl i y hy hy1
      obtain ⟨r0, f1, f2, f3⟩ := hf.live i y hy hy1
      have hp := (F.pl _ _).2 ⟨f1, hne i y hy hy1 hi⟩
      refine ⟨r0, hp, ?_⟩
      simp only
      rw [F.rd _ _ 1 hp (by omega)]
      exact ⟨f2, f3⟩
    · intro i j y y' hy hy' h3 h4 he
      exact hf.inj i j y y' (hsl i y hy h3).2 (hsl j y' hy' h4).2 h3 h4 he
  refine ⟨_, hdrop, hfit, ?_, ?_, ⟨F.quota, rfl, rfl, F.len, by simp only [List.length_set]; exact Nat.le_refl _⟩⟩
  · cases hq : reco (⟨s', { S.t with slots := S.t.slots.set k { x with is := z } }⟩ : St) h with
    | none => rfl
    | some ws =>
      exfalso
      obtain ⟨i, y, hy, hy1, hy2, _⟩ := (look_iff htab).1 hq
      obtain ⟨hi, hy⟩ := hsl i y hy hy1
      have hil : i < S.t.slots.length := (List.getElem?_eq_some_iff.1 hy).1
      have := hf.tab.len
      have := hf.tab.most.2
      rw [h2] at hy2
      unfold nameOf at hy2
      omega
  · intro h' hn
    refine look_ext fun ws => ?_
    rw [look_iff hf.tab, look_iff htab]
    have hw : ∀ (i : Nat) (y : Slot), S.t.slots[i]? = some y → y.is = 1 → i ≠ k → wordsAt s' y.addr = wordsAt S.a y.addr := by
      intro i y hy hy1 hi
      obtain ⟨r0, f1, f2, f3⟩ := hf.live i y hy hy1
      have hp := (F.pl _ _).2 ⟨f1, hne i y hy hy1 hi⟩
      unfold wordsAt
      rw [F.rd _ _ 1 hp (by omega)]
      refine List.map_congr_left fun b hb => ?_
      have hb := List.mem_range.1 hb
      have := F.rd _ _ (2 + b) hp (by omega)
      rw [← Nat.add_assoc] at this
      exact this
    constructor
    · rintro ⟨i, y, hy, hy1, hy2, hy3⟩
      have hik : i ≠ k := by
        rintro rfl
        rw [hx] at hy
        injection hy with hy
        subst hy
        exact hn (hy2.trans h2.symm)
      exact ⟨i, y, (hso i hik).trans hy, hy1, hy2, by rw [hy3]; exact (hw i y hy hy1 hik).symm⟩
    · rintro ⟨i, y, hy, hy1, hy2, hy3⟩
      obtain ⟨hi, hy'⟩ := hsl i y hy hy1
      exact ⟨i, y, hy', hy1, hy2, by rw [hy3]; exact hw i y hy' hy1 hi⟩
end Go.Proofs.YtepdkbmnkjfcpaaGreatDoor
namespace Go.Proofs.YtepdkbmnkjfcpaaGreatDoor
open Lf
theorem recWords_look {S : St} {o : Nat → Nat} (hf : Fit S o) {h : Nat} {ws : List Nat} (hl : reco S h = some ws) : recWords S h = ws := by
  unfold recWords
  rw [look_len hf.tab hl]
  refine List.ext_getElem? fun i => ?_
  by_cases hi : i < ws.length
  · rw [List.getElem?_map, List.getElem?_range hi]
    show some (S.get h i).1 = _
    rw [look_get hf hl hi, List.getElem?_eq_getElem hi, List.getD_eq_getElem?_getD, List.getElem?_eq_getElem hi]
    rfl
  · rw [List.getElem?_eq_none (by simp; omega), List.getElem?_eq_none (by omega)]
theorem getBlob_look {S : St} {o : Nat → Nat} (hf : Fit S o) {h : Nat} {t : List UInt8} (ht : t.length ≤ 1000) (hl : reco S h = some (wordsOf t)) : getBlob S h = (t, 0) := by
  unfold getBlob
  rw [look_len hf.tab hl]
  simp only
  rw [recWords_look hf hl, textOf_wordsOf t ht]
theorem many_le {n : Nat} (h : n ≤ 1000) : many n = 1 + (n + 7) / 8 ∧ many n ≤ 126 := by
  have : many n = 1 + (n + 7) / 8 := by unfold many; rw [if_neg (by omega)]
  omega
theorem classPages_small {n : Nat} (h1 : 1 ≤ n) (h2 : n ≤ 4000) : classPages n ≤ (n + 65) / 64 := by
  unfold classPages
  rw [if_neg (by omega)]
  split <;> omega
theorem putBlob_fit {S : St} {o : Nat → Nat} (hf : Fit S o) {t : List UInt8} (ht : t.length ≤ 1000) (hr : Space S 3 1) :
    ∃ h S' o', putBlob S t = ((h, 0), S') ∧ Fit S' o' ∧ reco S h = none ∧ reco S' h = some (wordsOf t) ∧ (∀ h', h' ≠ h → reco S' h' = reco S h') ∧ Grew S S' 3 1 ∧ MkOk S (many t.length) := by
  obtain ⟨m1, m2⟩ := many_le ht
  have hcp : classPages (many t.length + 2) ≤ 3 := Nat.le_trans (classPages_small (by omega) (by omega)) (by omega)
  obtain ⟨h, S1, o1, ws, e, hf1, hn, hlen, hl, ho, hg, _⟩ := make_fit hf (n := many t.length) (by omega) (hr.mono hcp (Nat.le_refl _))
  have hok := make_ok hf (n := many t.length) (by omega) (hr.mono hcp (Nat.le_refl _))
  obtain ⟨q1, q2, q3, q4⟩ := look_putAll hf1 hl (l := wordsOf t) (by rw [wordsOf_length, hlen, m1]) (wordsOf_lt t (by omega))
  refine ⟨h, putWords S1 h 0 (wordsOf t), o1, ?_, q1, hn, q2, fun h' hne => (q3 h' hne).trans (ho h' hne), (hg.trans q4).mono (by omega) (by omega), hok⟩
  unfold putBlob
  rw [if_neg (by omega), e]
  rfl
def ndWords (n : Nd) : List Nat := [n.key, n.val, n.left, n.right, n.mark, n.size]
theorem asked_look {S : St} {o : Nat → Nat} (hf : Fit S o) {h : Nat} {n : Nd} (hl : reco S h = some (ndWords n)) : askedN S h = 0 := by
  unfold askedN
  rw [look_len hf.tab hl]
  simp [ndWords]
theorem getNode_look {S : St} {o : Nat → Nat} (hf : Fit S o) {h : Nat} {n : Nd} (hl : reco S h = some (ndWords n)) : getNode S h = (n, 0) := by
  have g := fun k hk => look_get hf hl (k := k) hk
  have hlen : (ndWords n).length = 6 := rfl
  unfold getNode
  rw [asked_look hf hl]
  simp only
  rw [g 0 (by omega), g 1 (by omega), g 2 (by omega), g 3 (by omega), g 4 (by omega), g 5 (by omega)]
  rfl
theorem getNode_none {S : St} {h : Nat} (hl : reco S h = none) : getNode S h = (Nd.zero, 7) := by
  unfold getNode askedN
  rw [look_none hl]
  rfl
theorem look_zero {S : St} : reco S 0 = none := by
  unfold reco Tab.of
  simp
theorem getNode_nil (S : St) : getNode S 0 = (Nd.zero, 7) := getNode_none look_zero
theorem fit_empty (q n l : Nat) (hq : q ≤ 262144) (hn : 1 ≤ n ∧ n ≤ 65536) (hl : 1 ≤ l ∧ l < 4294967296) : Fit ⟨⟨q, []⟩, ⟨n, l, []⟩⟩ id where
  own := ⟨⟨List.Pairwise.nil, by simp, by simp, by simp [Slab.keys], by simp, hq⟩, by simp [Slab.keys], by simp [Slab.keys]⟩
  tab := ⟨hn, hl, by simp, by simp⟩
  live := by simp
  inj := by simp
end Go.Proofs.YtepdkbmnkjfcpaaGreatDoor
namespace Go.Proofs.YtepdkbmnkjfcpaaGreatDoor
open Lf
structure It where
  h : Nat
  kh : Nat
  vh : Nat
  k : List UInt8
  v : List UInt8
inductive Tr where
  | nil : Tr
  | node (l : Tr) (d : It) (m : Nat) (r : Tr) : Tr
namespace Tr
def root : Tr → Nat
  | nil => 0
  | node _ d _ _ => d.h
def mark : Tr → Nat
  | nil => 0
  | node _ _ m _ => m
def its : Tr → List It
  | nil => []
  | node l d _ r => l.its ++ d :: r.its
def hs (t : Tr) : List Nat := t.its.map (·.h)
def nd (l : Tr) (d : It) (m : Nat) (r : Tr) : Nd := ⟨d.kh, d.vh, l.root, r.root, m, (node l d m r).its.length⟩
def At (S : St) : Tr → Prop
  | nil => True
  | node l d m r => reco S d.h = some (ndWords (nd l d m r)) ∧ At S l ∧ At S r
def mk (l : Tr) (d : It) (r : Tr) : Tr := node l d (max l.mark r.mark + 1) r
theorem its_mk (l : Tr) (d : It) (r : Tr) : (mk l d r).its = l.its ++ d :: r.its := rfl
theorem hs_node (l : Tr) (d : It) (m : Nat) (r : Tr) : (node l d m r).hs = l.hs ++ d.h :: r.hs := by
  show (l.its ++ d :: r.its).map (·.h) = _
  simp [hs]
theorem At.frame {S S' : St} : ∀ {t : Tr}, At S t → (∀ h ∈ t.hs, reco S' h = reco S h) → At S' t
  | nil, _, _ => trivial
  | node l d m r, ⟨h1, h2, h3⟩, hf => by
    rw [hs_node] at hf
    refine ⟨(hf d.h (by simp)).trans h1, h2.frame fun h hm => hf h (by simp [hm]), h3.frame fun h hm => hf h (by simp [hm])⟩
theorem At.getNode {S : St} {o : Nat → Nat} (hf : Fit S o) {l : Tr} {d : It} {m : Nat} {r : Tr} (h : At S (node l d m r)) : Lf.getNode S d.h = (nd l d m r, 0) := getNode_look hf h.1
theorem At.mark_eq {S : St} {o : Nat → Nat} (hf : Fit S o) : ∀ {t : Tr}, At S t → markT S t.root = t.mark ∧ sizeT S t.root = t.its.length
  | nil, _ => by
    show (Lf.getNode S 0).1.mark = 0 ∧ (Lf.getNode S 0).1.size = 0
    rw [getNode_nil]; exact ⟨rfl, rfl⟩
  | node l d m r, h => by
    show (Lf.getNode S d.h).1.mark = m ∧ (Lf.getNode S d.h).1.size = _
    rw [h.getNode hf]; exact ⟨rfl, rfl⟩
theorem num_of {x : Nat} (h : x < 4611686018427387904) : num x = some x := by
  unfold num
  rw [Nat.div_eq_of_lt h]
theorem At.size {S : St} {o : Nat → Nat} (hf : Fit S o) {t : Tr} (h : At S t) (hm : t.its.length < 1000000) : sizeM S t.root = some t.its.length := by
  unfold sizeM
  rw [(h.mark_eq hf).2]
  exact num_of (by omega)
def Bal : Tr → Prop
  | nil => True
  | node l _ m r => Bal l ∧ Bal r ∧ m = max l.mark r.mark + 1 ∧ l.mark ≤ r.mark + 1 ∧ r.mark ≤ l.mark + 1
theorem Bal.mk {l r : Tr} (d : It) (hl : Bal l) (hr : Bal r) (h1 : l.mark ≤ r.mark + 1) (h2 : r.mark ≤ l.mark + 1) : Bal (Tr.mk l d r) := ⟨hl, hr, rfl, h1, h2⟩
theorem Bal.pos {t : Tr} (h : Bal t) (hm : 0 < t.mark) : ∃ l d r, t = Tr.mk l d r ∧ Bal l ∧ Bal r ∧ l.mark ≤ r.mark + 1 ∧ r.mark ≤ l.mark + 1 := by
  cases t with
  | nil => exact absurd hm (by simp [mark])
  | node l d m r =>
    obtain ⟨h1, h2, h3, h4, h5⟩ := h
    exact ⟨l, d, r, by unfold Tr.mk; rw [h3], h1, h2, h4, h5⟩
end Tr
end Go.Proofs.YtepdkbmnkjfcpaaGreatDoor
namespace Go.Proofs.YtepdkbmnkjfcpaaGreatDoor
open Lf
namespace Tr
theorem cmpB_refl : ∀ a : List UInt8, cmpB a a = 0
  | [] => rfl
  | x :: a => by unfold cmpB; rw [if_neg (UInt8.lt_irrefl x), if_neg (UInt8.lt_irrefl x)]; exact cmpB_refl a
theorem cmpB_eq0 : ∀ {a b : List UInt8}, cmpB a b = 0 → a = b
  | [], [], _ => rfl
  | [], _ :: _, h => by unfold cmpB at h; omega
  | _ :: _, [], h => by unfold cmpB at h; omega
  | x :: a, y :: b, h => by
    unfold cmpB at h
    split at h
    · omega
    · rename_i h1
      split at h
      · omega
      · rename_i h2
        have : x = y := UInt8.le_antisymm (UInt8.not_lt.1 h2) (UInt8.not_lt.1 h1)
        rw [this, cmpB_eq0 h]
theorem cmpB_swap : ∀ a b : List UInt8, cmpB b a = - cmpB a b
  | [], [] => rfl
  | [], _ :: _ => rfl
  | _ :: _, [] => rfl
  | x :: a, y :: b => by
    unfold cmpB
    by_cases h1 : x < y
    · rw [if_pos h1, if_neg (UInt8.lt_asymm h1), if_pos h1]; rfl
    · by_cases h2 : y < x
      · rw [if_pos h2, if_neg h1, if_pos h2]
      · rw [if_neg h1, if_neg h2, if_neg h2, if_neg h1]; exact cmpB_swap a b
theorem cmpB_trans : ∀ {a b c : List UInt8}, cmpB a b < 0 → cmpB b c < 0 → cmpB a c < 0
  | [], [], _, h, _ => by unfold cmpB at h; omega
  | [], _ :: _, [], _, h => by unfold cmpB at h; omega
  | [], _ :: _, _ :: _, _, _ => by unfold cmpB; omega
  | _ :: _, [], _, h, _ => by unfold cmpB at h; omega
  | _ :: _, _ :: _, [], _, h => by unfold cmpB at h; omega
  | x :: a, y :: b, z :: c, h1, h2 => by
    unfold cmpB at h1 h2 ⊢
    by_cases p : x < y
    · by_cases q : y < z
      · rw [if_pos (UInt8.lt_trans p q)]; omega
      · rw [if_neg q] at h2
        by_cases q' : z < y
        · rw [if_pos q'] at h2; omega
        · have : y = z := UInt8.le_antisymm (UInt8.not_lt.1 q') (UInt8.not_lt.1 q)
          subst this
          rw [if_pos p]; omega
    · rw [if_neg p] at h1
      by_cases p' : y < x
      · rw [if_pos p'] at h1; omega
      · have : x = y := UInt8.le_antisymm (UInt8.not_lt.1 p') (UInt8.not_lt.1 p)
        subst this
        rw [if_neg p'] at h1
        by_cases q : x < z
        · rw [if_pos q]; omega
        · rw [if_neg q] at h2 ⊢
          by_cases q' : z < x
          · rw [if_pos q'] at h2; omega
          · rw [if_neg q'] at h2 ⊢
            exact cmpB_trans h1 h2
def klt (a b : It) : Prop := cmpB a.k b.k < 0
structure Blobs (S : St) (d : It) : Prop where
  k : reco S d.kh = some (wordsOf d.k)
  v : reco S d.vh = some (wordsOf d.v)
  lk : d.k.length ≤ 1000
  lv : d.v.length ≤ 1000
theorem At.blob {S : St} {o : Nat → Nat} (hf : Fit S o) {t : List UInt8} (ht : t.length ≤ 1000) {h : Nat} (hl : reco S h = some (wordsOf t)) : textM S h = some t := by
  unfold textM
  rw [getBlob_look hf ht hl]
  rfl
end Tr
end Go.Proofs.YtepdkbmnkjfcpaaGreatDoor
