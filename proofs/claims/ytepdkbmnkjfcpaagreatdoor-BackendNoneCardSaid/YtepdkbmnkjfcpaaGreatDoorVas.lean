/- The arena's pages as owned by their heads; the places of blocks: plain. -/
import Derived.Test.YtepdkbmnkjfcpaaGreatDoorVaj
import Derived.Test.YtepdkbmnkjfcpaaGreatDoorVag
set_option maxRecDepth 100000
namespace Go.Proofs.YtepdkbmnkjfcpaaGreatDoor
open Lf
theorem rd_wr_eq {s : Slab} (hw : SlabWF s) {a : Nat} (hp : a / 64 ∈ s.keys) (x : Nat) : (s.wr a x).rd a = x := by
  obtain ⟨l, h1, h2⟩ := page_some hp
  have hl := hw.len _ h2
  unfold Slab.rd
  rw [Lf.Slab.page?_wr, h1]
  simp only [Option.map_some, if_true]
  rw [List.getD_eq_getElem?_getD, List.getElem?_set_self (by simp only at hl; omega)]
  rfl
theorem putH_keys (s : Slab) (p : Nat) (x : Head) : (putH s p x).keys = s.keys := by unfold putH; rw [keys_wr, keys_wr]
theorem putH_length (s : Slab) (p : Nat) (x : Head) : (putH s p x).pages.length = s.pages.length := by unfold putH; rw [pages_wr_length, pages_wr_length]
theorem putH_quota (s : Slab) (p : Nat) (x : Head) : (putH s p x).quota = s.quota := rfl
theorem putH_wf {s : Slab} (hw : SlabWF s) (p : Nat) {x : Head} (h1 : x.kind < 256) (h2 : x.n < 256) (h3 : x.w < 18446744073709551616) : SlabWF (putH s p x) :=
  (hw.wr _ _ (by omega)).wr _ _ h3
theorem putH_rd {s : Slab} (p : Nat) (x : Head) {b : Nat} (h1 : b ≠ p * 64) (h2 : b ≠ p * 64 + 1) : (putH s p x).rd b = s.rd b := by
  unfold putH; rw [Slab.rd_wr_ne _ _ _ _ h2, Slab.rd_wr_ne _ _ _ _ h1]
theorem putH_get {s : Slab} (hw : SlabWF s) {p : Nat} (hp : p ∈ s.keys) {x : Head} (h1 : x.kind < 256) (h2 : x.n < 256) : getH (putH s p x) p = x := by
  have e1 : (p * 64 + 1) / 64 = p := by omega
  have e0 : p * 64 / 64 = p := by omega
  have hw1 : SlabWF (s.wr (p * 64) (x.kind + x.n * 256)) := hw.wr _ _ (by omega)
  have r1 : (putH s p x).rd (p * 64 + 1) = x.w := rd_wr_eq hw1 (by rw [e1, keys_wr]; exact hp) _
  have r0 : (putH s p x).rd (p * 64) = x.kind + x.n * 256 := by
    unfold putH
    rw [Slab.rd_wr_ne _ _ _ _ (by omega)]
    exact rd_wr_eq hw (by rw [e0]; exact hp) _
  unfold getH
  rw [r0, r1]
  obtain ⟨a, b, c⟩ := x
  simp only at h1 h2 ⊢
  congr 1 <;> omega
theorem getH_congr {s s' : Slab} {p : Nat} (h : ∀ b, b / 64 = p → b % 64 < 2 → s'.rd b = s.rd b) : getH s' p = getH s p := by
  unfold getH; rw [h (p * 64) (by omega) (by omega), h (p * 64 + 1) (by omega) (by omega)]
theorem zero_keys (s : Slab) (a : Nat) : ∀ n, (s.zero a n).keys = s.keys
  | 0 => rfl
  | n + 1 => by show (Slab.wr _ _ _).keys = _; rw [keys_wr, zero_keys s a n]
theorem zero_length (s : Slab) (a : Nat) : ∀ n, (s.zero a n).pages.length = s.pages.length
  | 0 => rfl
  | n + 1 => by show (Slab.wr _ _ _).pages.length = _; rw [pages_wr_length, zero_length s a n]
theorem zero_quota (s : Slab) (a : Nat) : ∀ n, (s.zero a n).quota = s.quota
  | 0 => rfl
  | n + 1 => by show (Slab.wr _ _ _).quota = _; exact zero_quota s a n
theorem zero_wf {s : Slab} (hw : SlabWF s) (a : Nat) : ∀ n, SlabWF (s.zero a n)
  | 0 => hw
  | n + 1 => (zero_wf hw a n).wr _ _ (by omega)
theorem zero_rd (s : Slab) (a : Nat) {b : Nat} : ∀ n, (b < a ∨ a + n ≤ b) → (s.zero a n).rd b = s.rd b
  | 0, _ => rfl
  | n + 1, h => by
    show (Slab.wr _ _ _).rd b = _
    rw [Slab.rd_wr_ne _ _ _ _ (by omega)]
    exact zero_rd s a n (by omega)
theorem lookup_cons_ite (a q : Nat) (b : Page) (r : List (Nat × Page)) : ((a, b) :: r).lookup q = if q = a then some b else r.lookup q := by
  rw [List.lookup_cons]
  by_cases e : q = a
  · subst e; simp
  · have : (q == a) = false := by simp [e]
    rw [this, if_neg e]
theorem lookup_ins (p q : Nat) (l : Page) : ∀ r : List (Nat × Page), (ins p l r).lookup q = if q = p then some l else r.lookup q
  | [] => by
    unfold ins
    rw [lookup_cons_ite]
  | x :: r => by
    obtain ⟨a, b⟩ := x
    unfold ins
    simp only
    split
    · rename_i h
      rw [lookup_cons_ite, lookup_ins p q l r, lookup_cons_ite]
      by_cases e : q = a
      · rw [if_pos e, if_neg (by omega), if_pos e]
      · rw [if_neg e, if_neg e]
    · rw [lookup_cons_ite]
theorem page?_add (s : Slab) (p q : Nat) : (s.add p).page? q = if q = p then some zeros else s.page? q := lookup_ins p q zeros s.pages
theorem addRun_rd (s : Slab) (p : Nat) {b : Nat} : ∀ n, (b / 64 < p ∨ p + n ≤ b / 64) → (s.addRun p n).rd b = s.rd b
  | 0, _ => rfl
  | n + 1, h => by
    rw [← addRun_rd s p n (by omega)]
    show ((s.addRun p n).add (p + n)).rd b = _
    unfold Slab.rd
    rw [page?_add, if_neg (by omega)]
theorem addRun_wf {s : Slab} (hw : SlabWF s) {p : Nat} : ∀ n, (∀ k, k < n → p + k ∉ s.keys) → p + n ≤ 1048576 → (s.pages.length + n) * 64 ≤ s.quota → SlabWF (s.addRun p n)
  | 0, _, _, _ => hw
  | n + 1, h1, h2, h3 => by
    refine (addRun_wf hw n (fun k hk => h1 k (by omega)) (by omega) (by omega)).add ?_ (by omega) ?_
    · rw [addRun_keys]
      rintro (h | h)
      · exact h1 n (by omega) h
      · omega
    · rw [addRun_length, addRun_quota]; omega
theorem lookup_filter_ne (p q : Nat) : ∀ r : List (Nat × Page), q ≠ p → (r.filter fun x => x.1 ≠ p).lookup q = r.lookup q
  | [], _ => rfl
  | x :: r, h => by
    obtain ⟨a, b⟩ := x
    rw [List.filter_cons]
    split
    · rw [lookup_cons_ite, lookup_cons_ite, lookup_filter_ne p q r h]
    · rename_i h1
      have : a = p := by simpa using h1
      subst this
      rw [lookup_filter_ne a q r h, lookup_cons_ite, if_neg h]
theorem del_rd (s : Slab) {p b : Nat} (h : b / 64 ≠ p) : (s.del p).rd b = s.rd b := by
  unfold Slab.rd
  have : (s.del p).page? (b / 64) = s.page? (b / 64) := lookup_filter_ne p _ s.pages h
  rw [this]
theorem delRun_rd (s : Slab) (p : Nat) {b : Nat} : ∀ n, (b / 64 < p ∨ p + n ≤ b / 64) → (s.delRun p n).rd b = s.rd b
  | 0, _ => rfl
  | n + 1, h => by
    rw [← delRun_rd s p n (by omega)]
    exact del_rd _ (by omega)
theorem delRun_wf {s : Slab} (hw : SlabWF s) (p : Nat) : ∀ n, SlabWF (s.delRun p n)
  | 0 => hw
  | n + 1 => (delRun_wf hw p n).del _
theorem delRun_quota (s : Slab) (p : Nat) : ∀ n, (s.delRun p n).quota = s.quota
  | 0 => rfl
  | n + 1 => delRun_quota s p n
theorem delRun_length (s : Slab) (p : Nat) : ∀ n, (s.delRun p n).pages.length ≤ s.pages.length
  | 0 => Nat.le_refl _
  | n + 1 => Nat.le_trans (List.length_filter_le _ _) (delRun_length s p n)
def spanH (x : Head) : Nat := if x.kind = 2 then x.n else 1
def HeadOk (x : Head) : Prop := (x.kind = 1 ∧ x.n < 8) ∨ (x.kind = 2 ∧ 1 ≤ x.n ∧ x.n ≤ 64)
structure Own (s : Slab) (o : Nat → Nat) : Prop where
  wf : SlabWF s
  up : ∀ p ∈ s.keys, o p ∈ s.keys ∧ o (o p) = o p ∧ o p ≤ p ∧ p < o p + spanH (getH s (o p))
  down : ∀ h ∈ s.keys, o h = h → HeadOk (getH s h) ∧ ∀ k, k < spanH (getH s h) → h + k ∈ s.keys ∧ o (h + k) = h
theorem HeadOk.small {x : Head} (h : HeadOk x) : x.kind < 256 ∧ x.n < 256 := by rcases h with h | h <;> omega
theorem mem_headsFrom_own {s : Slab} {o : Nat → Nat} (h : Own s o) : ∀ (ks : List Nat) (nx : Nat), ks.Pairwise (· < ·) → (∀ q ∈ ks, q ∈ s.keys) → (∀ q ∈ ks, o q ∈ ks → nx ≤ q) → (∀ q ∈ ks, o q ∉ ks → q < nx) → ∀ y, y ∈ headsFrom s nx ks ↔ (y.1 ∈ ks ∧ o y.1 = y.1 ∧ y.2 = getH s y.1)
  | [], nx, _, _, _, _, y => by simp [headsFrom]
  | p :: r, nx, hs, hk, h1, h2, y => by
    have hpr := (List.pairwise_cons.1 hs).1
    have hrs := (List.pairwise_cons.1 hs).2
    have hpk := hk p (List.mem_cons_self ..)
    have up := h.up p hpk
    unfold headsFrom
    by_cases hlt : p < nx
    · rw [if_pos hlt]
      have hop : o p ∉ p :: r := fun hm => by have := h1 p (List.mem_cons_self ..) hm; omega
      have hne : o p ≠ p := fun e => hop (by rw [e]; exact List.mem_cons_self ..)
      have hmem : ∀ q ∈ r, o q ∈ p :: r → o q ∈ r := fun q hq hm => by
        rcases List.mem_cons.1 hm with e | e
        · exfalso
          have := (h.up q (hk q (List.mem_cons_of_mem _ hq))).2.1
          rw [e] at this
          exact hne this
        · exact e
      rw [mem_headsFrom_own h r nx hrs (fun q hq => hk q (List.mem_cons_of_mem _ hq)) (fun q hq hm => h1 q (List.mem_cons_of_mem _ hq) (List.mem_cons_of_mem _ hm))
        (fun q hq hm => h2 q (List.mem_cons_of_mem _ hq) fun hm2 => hm (hmem q hq hm2)) y]
      constructor
      · rintro ⟨a, b, c⟩; exact ⟨List.mem_cons_of_mem _ a, b, c⟩
      · rintro ⟨a, b, c⟩
        rcases List.mem_cons.1 a with e | e
        · exfalso; rw [e] at b; exact hne b
        · exact ⟨e, b, c⟩
    · rw [if_neg hlt]
      have hin : o p ∈ p :: r := Classical.byContradiction fun hn => hlt (h2 p (List.mem_cons_self ..) hn)
      have hop : o p = p := by
        rcases List.mem_cons.1 hin with e | e
        · exact e
        · have := hpr _ e; omega
      have dn := h.down p hpk hop
      have sp : p < p + spanH (getH s p) := by have := up.2.2.2; rw [hop] at this; exact this
      rw [List.mem_cons, mem_headsFrom_own h r _ hrs (fun q hq => hk q (List.mem_cons_of_mem _ hq)) ?_ ?_ y]
      · constructor
        · rintro (e | ⟨a, b, c⟩)
          · subst e; exact ⟨List.mem_cons_self .., hop, rfl⟩
          · exact ⟨List.mem_cons_of_mem _ a, b, c⟩
        · rintro ⟨a, b, c⟩
          rcases List.mem_cons.1 a with e | e
          · left; obtain ⟨y1, y2⟩ := y; simp only at e c ⊢; rw [c, e]
          · exact Or.inr ⟨e, b, c⟩
      · intro q hq hm
        have hpq := hpr q hq
        have hnq := h1 q (List.mem_cons_of_mem _ hq) (List.mem_cons_of_mem _ hm)
        split
        · rename_i hk2
          refine Classical.byContradiction fun hn => ?_
          have hs2 : spanH (getH s p) = (getH s p).n := by unfold spanH; rw [if_pos hk2]
          have := (dn.2 (q - p) (by rw [hs2]; omega)).2
          rw [show p + (q - p) = q by omega] at this
          rw [this] at hm
          have := hpr p hm
          omega
        · exact hnq
      · intro q hq hm
        have hpq := hpr q hq
        by_cases e : o q = p
        · have hu := (h.up q (hk q (List.mem_cons_of_mem _ hq))).2.2.2
          rw [e] at hu
          unfold spanH at hu
          split
          · rename_i hk2; rw [if_pos hk2] at hu; exact hu
          · rename_i hk2; rw [if_neg hk2] at hu; omega
        · have := h2 q (List.mem_cons_of_mem _ hq) (fun h3 => by
            rcases List.mem_cons.1 h3 with e2 | e2
            · exact e e2
            · exact hm e2)
          omega
theorem Own.mem_heads {s : Slab} {o : Nat → Nat} (h : Own s o) (y : Nat × Head) : y ∈ heads s ↔ (y.1 ∈ s.keys ∧ o y.1 = y.1 ∧ y.2 = getH s y.1) :=
  mem_headsFrom_own h s.keys 0 h.wf.sorted (fun _ hq => hq) (fun _ _ _ => Nat.zero_le _) (fun q hq hn => absurd (h.up q hq).1 hn) y
theorem slot_room {c k : Nat} (hc : c < 8) (hk : k < classSlots c) (h : Nat) : placeH h c k = h * 64 + 2 + k * classSize c ∧ k * classSize c + classSize c ≤ 62 ∧ 2 ≤ classSize c := by
  have e : placeH h c k = h * 64 + 2 + k * classSize c := by unfold placeH classPlace; rw [if_pos ⟨hc, hk⟩]; omega
  refine ⟨e, ?_⟩
  have : c = 0 ∨ c = 1 ∨ c = 2 ∨ c = 3 ∨ c = 4 ∨ c = 5 ∨ c = 6 ∨ c = 7 := by omega
  rcases this with rfl | rfl | rfl | rfl | rfl | rfl | rfl | rfl <;> simp [classSlots, classSize, sizes] at hk ⊢ <;> omega
theorem slot_apart {c k k' : Nat} (h : k ≠ k') : k * classSize c + classSize c ≤ k' * classSize c ∨ k' * classSize c + classSize c ≤ k * classSize c := by
  rcases Nat.lt_or_gt_of_ne h with h | h
  · left
    have := Nat.mul_le_mul_right (classSize c) (show k + 1 ≤ k' from h)
    rw [Nat.add_mul] at this
    omega
  · right
    have := Nat.mul_le_mul_right (classSize c) (show k' + 1 ≤ k from h)
    rw [Nat.add_mul] at this
    omega
theorem slots_lt {c k : Nat} (h : k < classSlots c) : c < 8 ∧ k < 31 := by
  have hc : c < 8 := by
    unfold classSlots at h
    split at h
    · assumption
    · omega
  refine ⟨hc, ?_⟩
  have : c = 0 ∨ c = 1 ∨ c = 2 ∨ c = 3 ∨ c = 4 ∨ c = 5 ∨ c = 6 ∨ c = 7 := by omega
  rcases this with rfl | rfl | rfl | rfl | rfl | rfl | rfl | rfl <;> simp [classSlots, sizes] at h <;> omega
def BlkOf (x : Head) (h a r : Nat) : Prop := (x.kind = 1 ∧ ∃ k, k < classSlots x.n ∧ x.w.testBit k = true ∧ a = placeH h x.n k ∧ r = classSize x.n) ∨ (x.kind = 2 ∧ a = h * 64 + 2 ∧ r + 2 = x.n * 64)
def PlaceAt (s : Slab) (o : Nat → Nat) (h a r : Nat) : Prop := h ∈ s.keys ∧ o h = h ∧ BlkOf (getH s h) h a r
def Place (s : Slab) (o : Nat → Nat) (a r : Nat) : Prop := ∃ h, PlaceAt s o h a r
theorem BlkOf.pos {x : Head} {h a r : Nat} (hx : HeadOk x) (hb : BlkOf x h a r) : 2 ≤ r ∧ a / 64 = h ∧ 2 ≤ a % 64 := by
  rcases hb with ⟨h1, k, h2, h3, h4, h5⟩ | ⟨h1, h2, h3⟩
  · obtain ⟨e1, e2, e3⟩ := slot_room (slots_lt h2).1 h2 h
    rw [h5, h4, e1]
    omega
  · rcases hx with hx | hx
    · omega
    · refine ⟨by omega, by omega, by omega⟩
theorem PlaceAt.word {s : Slab} {o : Nat → Nat} (ho : Own s o) {h a r b : Nat} (hp : PlaceAt s o h a r) (hb : b < r) : (a + b) / 64 ∈ s.keys ∧ o ((a + b) / 64) = h ∧ ((a + b) / 64 = h → 2 ≤ (a + b) % 64) := by
  obtain ⟨h1, h2, h3⟩ := hp
  obtain ⟨hd, dn⟩ := ho.down h h1 h2
  rcases h3 with ⟨g1, k, g2, g3, g4, g5⟩ | ⟨g1, g2, g3⟩
  · obtain ⟨e1, e2, e3⟩ := slot_room (slots_lt g2).1 g2 h
    have e4 : (a + b) / 64 = h := by omega
    rw [e4]
    exact ⟨h1, h2, fun _ => by omega⟩
  · have hs : spanH (getH s h) = (getH s h).n := by unfold spanH; rw [if_pos g1]
    have := dn ((a + b) / 64 - h) (by rw [hs]; omega)
    rw [show h + ((a + b) / 64 - h) = (a + b) / 64 by omega] at this
    exact ⟨this.1, this.2, fun _ => by omega⟩
theorem PlaceAt.not_head {s : Slab} {o : Nat → Nat} (ho : Own s o) {h a r b h' : Nat} (hp : PlaceAt s o h a r) (hb : b < r) (hh : o h' = h') (e : (a + b) / 64 = h') : 2 ≤ (a + b) % 64 := by
  obtain ⟨_, h2, h3⟩ := hp.word ho hb
  rw [e, hh] at h2
  exact h3 (e.trans h2)
theorem PlaceAt.pos {s : Slab} {o : Nat → Nat} (ho : Own s o) {h a r : Nat} (hp : PlaceAt s o h a r) : 2 ≤ r ∧ a / 64 = h ∧ 2 ≤ a % 64 := hp.2.2.pos (ho.down h hp.1 hp.2.1).1
theorem PlaceAt.apart {s : Slab} {o : Nat → Nat} (ho : Own s o) {h a r h' a' r' : Nat} (hp : PlaceAt s o h a r) (hp' : PlaceAt s o h' a' r') : (a = a' ∧ r = r') ∨ a + r ≤ a' ∨ a' + r' ≤ a := by
  by_cases e : h = h'
  · subst e
    rcases hp.2.2 with ⟨g1, k, g2, g3, g4, g5⟩ | ⟨g1, g2, g3⟩
    · rcases hp'.2.2 with ⟨f1, k', f2, f3, f4, f5⟩ | ⟨f1, f2, f3⟩
      · by_cases ek : k = k'
        · subst ek; left; exact ⟨g4.trans f4.symm, g5.trans f5.symm⟩
        · right
          have hc := (slots_lt g2).1
          rw [(slot_room hc g2 h).1] at g4
          rw [(slot_room hc f2 h).1] at f4
          have := slot_apart (c := (getH s h).n) ek
          omega
      · omega
    · rcases hp'.2.2 with ⟨f1, k', f2, f3, f4, f5⟩ | ⟨f1, f2, f3⟩
      · omega
      · left; omega
  · right
    refine Classical.byContradiction fun hn => e ?_
    have p1 := (hp.pos ho).1
    have p2 := (hp'.pos ho).1
    rcases Nat.le_total a a' with hl | hl
    · have w1 := (hp.word ho (b := a' - a) (by omega)).2.1
      have w2 := (hp'.word ho (b := 0) (by omega)).2.1
      rw [show a + (a' - a) = a' + 0 by omega] at w1
      rw [← w1, ← w2]
    · have w1 := (hp'.word ho (b := a - a') (by omega)).2.1
      have w2 := (hp.word ho (b := 0) (by omega)).2.1
      rw [show a' + (a - a') = a + 0 by omega] at w1
      rw [← w1, ← w2]
theorem Place.apart {s : Slab} {o : Nat → Nat} (ho : Own s o) {a r a' r' : Nat} (hp : Place s o a r) (hp' : Place s o a' r') : (a = a' ∧ r = r') ∨ a + r ≤ a' ∨ a' + r' ≤ a := by
  obtain ⟨h, hp⟩ := hp
  obtain ⟨h', hp'⟩ := hp'
  exact hp.apart ho hp'
theorem Place.ok {s : Slab} {o : Nat → Nat} (ho : Own s o) {a r b : Nat} (hp : Place s o a r) (hb : b < r) : s.err (a + b) = 0 ∧ a + b ≤ lastAddr ∧ (a + b) / 64 ∈ s.keys := by
  obtain ⟨h, hp⟩ := hp
  have hk := (hp.word ho hb).1
  have := ho.wf.top _ hk
  have hl : a + b ≤ lastAddr := by unfold lastAddr; omega
  exact ⟨err_ok hl hk, hl, hk⟩
theorem Own.same {s s' : Slab} {o : Nat → Nat} (h : Own s o) (hw : SlabWF s') (hk : s'.keys = s.keys) (hg : ∀ p ∈ s.keys, o p = p → getH s' p = getH s p) : Own s' o where
  wf := hw
  up p hp := by
    rw [hk] at hp ⊢
    have := h.up p hp
    rw [hg _ this.1 this.2.1]
    exact this
  down p hp ho := by
    rw [hk] at hp ⊢
    rw [hg p hp ho]
    exact h.down p hp ho
theorem PlaceAt.same {s s' : Slab} {o : Nat → Nat} (hk : s'.keys = s.keys) (hg : ∀ p ∈ s.keys, o p = p → getH s' p = getH s p) {h a r : Nat} (hp : PlaceAt s o h a r) : PlaceAt s' o h a r :=
  ⟨by rw [hk]; exact hp.1, hp.2.1, by rw [hg h hp.1 hp.2.1]; exact hp.2.2⟩
theorem Own.wr {s : Slab} {o : Nat → Nat} (h : Own s o) {a r b x : Nat} (hp : Place s o a r) (hb : b < r) (hx : x < 18446744073709551616) : Own (s.wr (a + b) x) o ∧ (∀ a0 r0, Place s o a0 r0 → Place (s.wr (a + b) x) o a0 r0) := by
  obtain ⟨h0, hp⟩ := hp
  have hg : ∀ p ∈ s.keys, o p = p → getH (s.wr (a + b) x) p = getH s p := fun p _ ho => getH_congr fun c e1 e2 => Slab.rd_wr_ne _ _ _ _ (by
    rintro rfl
    have := hp.not_head h hb ho e1
    omega)
  exact ⟨h.same (h.wf.wr _ _ hx) (keys_wr _ _ _) hg, fun a0 r0 ⟨h1, q⟩ => ⟨h1, q.same (keys_wr _ _ _) hg⟩⟩
end Go.Proofs.YtepdkbmnkjfcpaaGreatDoor
