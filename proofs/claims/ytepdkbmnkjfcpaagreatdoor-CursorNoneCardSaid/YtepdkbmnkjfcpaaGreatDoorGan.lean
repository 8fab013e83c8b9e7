/- The store in memory; what stands of it when blocks are kept: plain. The store: none, at, Len, place, Get, Put: the walks. -/
import Derived.Test.YtepdkbmnkjfcpaaGreatDoorGaj
import Derived.Test.YtepdkbmnkjfcpaaGreatDoorGam
import Derived.OwnWalk
namespace Go.Proofs.YtepdkbmnkjfcpaaGreatDoor
open Go.RowKit Go.BigFrame Go.Maps Go.WideMaps Lf

theorem TabOn.of_keep {w w' : World} {pt : Nat} {t : Tab} {v : Value} (h : TabOn w pt t v) (hp : w'.heap[pt]? = w.heap[pt]?) (hv : ∀ b, v.ownBlock = some b → w'.heap[b]? = w.heap[b]?) : TabOn w' pt t v where
  wf := h.wf
  hd := hp.trans h.hd
  row := by
    refine ⟨h.row.1, ?_⟩
    rcases h.row.2 with hn | ⟨g, cap, cur, rfl, hb, hg, rest⟩
    · exact Or.inl hn
    · exact Or.inr ⟨g, cap, cur, rfl, hb, (hv g rfl).trans hg, rest⟩
theorem TabOn.own_lt {w : World} {pt : Nat} {t : Tab} {v : Value} (h : TabOn w pt t v) {b : Nat} (hb : v.ownBlock = some b) : b < w.heap.size := by
  rcases h.row.2 with ⟨rfl, _⟩ | ⟨g, cap, cur, rfl, _, hg, _⟩
  · cases hb
  · injection hb with hb
    have hb : g = b := hb
    subst hb
    exact (Array.getElem?_eq_some_iff.1 hg).1

/-- what a store keeps while its heap works: what is to be kept, and all that is not the arena -/
def YS (Y : Nat → Prop) (ps ph pt : Nat) (v : Value) : Nat → Prop := fun k => Y k ∨ k = ps ∨ k = ph ∨ k = tabB ∨ k = pt ∨ v.ownBlock = some k
structure StIn (w : World) (ps pa pm ph pt : Nat) (v : Value) (S : St) (Y : Nat → Prop) : Prop where
  hd : w.heap[ps]? = some (.cells #[.int .i64 S.t.most, .int .u32 S.t.last, PV pa, PV ph, PV pt] 99 (0, 0))
  heap : HeapOn w ph pa pm S.a (YS Y ps ph pt v)
  tab : TabOn w pt S.t v
  off : ∀ k, (Y k ∨ k = ps ∨ k = ph ∨ k = tabB) → k ≠ pt ∧ v.ownBlock ≠ some k
/-- a store in memory: its struct is block ps; no block of it but that is of Y -/
def StOn (w : World) (ps : Nat) (S : St) (Y : Nat → Prop) : Prop := ∃ pa pm ph pt v, StIn w ps pa pm ph pt v S Y

theorem StIn.cells {w : World} {ps pa pm ph pt : Nat} {v : Value} {S : St} {Y : Nat → Prop} (h : StIn w ps pa pm ph pt v S Y) :
    w.cell? ⟨ps, 0, none⟩ = some (.int .i64 S.t.most) ∧ w.cell? ⟨ps, 1, none⟩ = some (.int .u32 S.t.last) ∧ w.cell? ⟨ps, 2, none⟩ = some (PV pa) ∧ w.cell? ⟨ps, 3, none⟩ = some (PV ph) ∧ w.cell? ⟨ps, 4, none⟩ = some (PV pt) := by
  refine ⟨?_, ?_, ?_, ?_, ?_⟩ <;> · rw [cell_of_block h.hd]; rfl
theorem StIn.below {w w' : World} {ps pa pm ph pt : Nat} {v : Value} {S : St} {Y : Nat → Prop} (h : StIn w ps pa pm ph pt v S Y) (hb : Below w.heap.size w w') : StIn w' ps pa pm ph pt v S Y where
  hd := by rw [hb.block ps (Array.getElem?_eq_some_iff.1 h.hd).1]; exact h.hd
  heap := h.heap.below hb
  tab := h.tab.of_keep (hb.block _ h.tab.pt_lt) fun b e => hb.block _ (h.tab.own_lt e)
  off := h.off
theorem StOn.below {w w' : World} {ps : Nat} {S : St} {Y : Nat → Prop} (h : StOn w ps S Y) (hb : Below w.heap.size w w') : StOn w' ps S Y := by
  obtain ⟨pa, pm, ph, pt, v, h⟩ := h
  exact ⟨pa, pm, ph, pt, v, h.below hb⟩
theorem StIn.yl {w : World} {ps pa pm ph pt : Nat} {v : Value} {S : St} {Y : Nat → Prop} (h : StIn w ps pa pm ph pt v S Y) : ∀ k, Y k → k < w.heap.size := fun k hk => h.heap.yl k (Or.inl hk)
theorem StOn.yl {w : World} {ps : Nat} {S : St} {Y : Nat → Prop} (h : StOn w ps S Y) : ∀ k, Y k → k < w.heap.size := by
  obtain ⟨pa, pm, ph, pt, v, h⟩ := h
  exact h.yl
theorem StOn.lt {w : World} {ps : Nat} {S : St} {Y : Nat → Prop} (h : StOn w ps S Y) : ps < w.heap.size := by
  obtain ⟨pa, pm, ph, pt, v, h⟩ := h
  exact (Array.getElem?_eq_some_iff.1 h.hd).1
theorem StOn.keep {w w' : World} {ps : Nat} {S : St} {Y : Nat → Prop} (h : StOn w ps S Y) (hb : Below w.heap.size w w') : Keep Y w w' := Keep.of_below hb h.yl
theorem StOn.drewN {w : World} {ps : Nat} {S : St} {Y : Nat → Prop} (h : StOn w ps S Y) (n : Nat) : StOn (w.drewN n) ps S Y := h.below ⟨rfl, rfl, rfl, Nat.le_refl _, fun _ _ => rfl⟩
theorem StOn.alloc {w : World} {ps : Nat} {S : St} {Y : Nat → Prop} (h : StOn w ps S Y) (o : Obj) : StOn (w.alloc o) ps S Y := h.below ((Below.refl _ w).alloc (Nat.le_refl _) o)
theorem HeapOn.mono' {w : World} {ph pa pm : Nat} {s : Slab} {Y Z : Nat → Prop} (h : HeapOn w ph pa pm s Y) (hz : ∀ k, Z k → Y k) (h1 : Z ph) (h2 : Z tabB) : HeapOn w ph pa pm s Z := h.mono hz h1 h2
theorem StOn.mono {w : World} {ps : Nat} {S : St} {Y Z : Nat → Prop} (h : StOn w ps S Y) (hz : ∀ k, Z k → Y k) : StOn w ps S Z := by
  obtain ⟨pa, pm, ph, pt, v, h⟩ := h
  refine ⟨pa, pm, ph, pt, v, h.hd, h.heap.mono (fun k hk => hk.imp (hz k) id) (Or.inr (Or.inr (Or.inl rfl))) (Or.inr (Or.inr (Or.inr (Or.inl rfl)))), h.tab, fun k hk => h.off k (hk.imp (hz k) id)⟩
/-- what was made since may be kept too -/
theorem StOn.wide {w w' : World} {ps : Nat} {S : St} {Y : Nat → Prop} (h : StOn w ps S Y) (hb : Below w.heap.size w w') : StOn w' ps S (fun k => Y k ∨ (w.heap.size ≤ k ∧ k < w'.heap.size)) := by
  obtain ⟨pa, pm, ph, pt, v, h⟩ := h
  have h' := h.below hb
  refine ⟨pa, pm, ph, pt, v, h'.hd, ?_, h'.tab, ?_⟩
  · refine (h.heap.wide hb).mono ?_ (Or.inr (Or.inr (Or.inl rfl))) (Or.inr (Or.inr (Or.inr (Or.inl rfl))))
    rintro k ((hk | hk) | hk)
    · exact Or.inl (Or.inl hk)
    · exact Or.inr hk
    · exact Or.inl (Or.inr hk)
  · rintro k ((hk | hk) | hk)
    · exact h.off k (Or.inl hk)
    · have h1 := h.tab.pt_lt
      refine ⟨by omega, fun e => ?_⟩
      have := h.tab.own_lt e
      omega
    · exact h.off k (Or.inr hk)
/-- the arena has turned, all else is as it was -/
theorem StIn.arena {w w' : World} {ps pa pm ph pt : Nat} {v : Value} {S : St} {Y : Nat → Prop} (h : StIn w ps pa pm ph pt v S Y) {a : Slab} (ha : HeapOn w' ph pa pm a (YS Y ps ph pt v)) (hk : Keep (YS Y ps ph pt v) w w') : StIn w' ps pa pm ph pt v ⟨a, S.t⟩ Y where
  hd := (hk.block ps (Or.inr (Or.inl rfl))).trans h.hd
  heap := ha
  tab := h.tab.of_keep (hk.block pt (Or.inr (Or.inr (Or.inr (Or.inr (Or.inl rfl)))))) fun b e => hk.block b (Or.inr (Or.inr (Or.inr (Or.inr (Or.inr e)))))
  off := h.off
theorem YS.self {Y : Nat → Prop} {ps ph pt : Nat} {v : Value} {k : Nat} (h : Y k) : YS Y ps ph pt v k := Or.inl h
/-- the table has turned, and its row may lie elsewhere -/
theorem StIn.table {w w' : World} {ps pa pm ph pt : Nat} {v v' : Value} {S : St} {Y : Nat → Prop} (h : StIn w ps pa pm ph pt v S Y) {t : Tab} (ht : TabOn w' pt t v') (hm : t.most = S.t.most ∧ t.last = S.t.last)
    (Z : Nat → Prop) (hZ : ∀ k, k < w.heap.size → k ≠ pt → v.ownBlock ≠ some k → Z k) (hk : Keep Z w w') (hv' : ∀ b, Z b → v'.ownBlock ≠ some b) : StIn w' ps pa pm ph pt v' ⟨S.a, t⟩ Y := by
  have hlt : ∀ k, (Y k ∨ k = ps ∨ k = ph ∨ k = tabB) → k < w.heap.size := fun k hk => h.heap.yl k (by
    rcases hk with hk | hk | hk | hk
    · exact Or.inl hk
    · exact Or.inr (Or.inl hk)
    · exact Or.inr (Or.inr (Or.inl hk))
    · exact Or.inr (Or.inr (Or.inr (Or.inl hk))))
  have hZo : ∀ k, (Y k ∨ k = ps ∨ k = ph ∨ k = tabB) → Z k := fun k hk => hZ k (hlt k hk) (h.off k hk).1 (h.off k hk).2
  obtain ⟨blk, hs⟩ := h.heap.slab
  have hzs : ∀ k, k < w.heap.size → (k = pa ∨ k = pm ∨ ∃ p ∈ S.a.keys, k = blk p) → Z k := fun k hkl hk => by
    have hny : ¬ YS Y ps ph pt v k := by
      rcases hk with rfl | rfl | ⟨p, hp, rfl⟩
      · exact hs.ya
      · exact hs.ym
      · exact hs.yp p hp
    exact hZ k hkl (fun e => hny (Or.inr (Or.inr (Or.inr (Or.inr (Or.inl e)))))) (fun e => hny (Or.inr (Or.inr (Or.inr (Or.inr (Or.inr e))))))
  have hs' : SlabOn w' pa pm S.a (YS Y ps ph pt v) blk := hs.of_keep hk.size fun k hkl hkk => hk.block k (hzs k hkl hkk)
  have hsv : SlabOn w' pa pm S.a (YS Y ps ph pt v') blk := by
    have key : ∀ k, k < w.heap.size → (k = pa ∨ k = pm ∨ ∃ p ∈ S.a.keys, k = blk p) → ¬ YS Y ps ph pt v k → ¬ YS Y ps ph pt v' k := fun k hkl hkk hn hy => by
      rcases hy with hy | hy | hy | hy | hy | hy
      · exact hn (Or.inl hy)
      · exact hn (Or.inr (Or.inl hy))
      · exact hn (Or.inr (Or.inr (Or.inl hy)))
      · exact hn (Or.inr (Or.inr (Or.inr (Or.inl hy))))
      · exact hn (Or.inr (Or.inr (Or.inr (Or.inr (Or.inl hy)))))
      · exact hv' k (hzs k hkl hkk) hy
    refine ⟨hs'.wf, hs'.hd, hs'.map, hs'.pg, hs'.inj, ?_, ?_, ?_, ?_⟩
    · exact key pa (Array.getElem?_eq_some_iff.1 hs.hd).1 (Or.inl rfl) hs.ya
    · exact key pm hs.map.lt (Or.inr (Or.inl rfl)) hs.ym
    · intro p hp
      obtain ⟨l, hl⟩ := keys_mem.1 hp
      exact key _ (Array.getElem?_eq_some_iff.1 (hs.pg _ hl)).1 (Or.inr (Or.inr ⟨p, hp, rfl⟩)) (hs.yp p hp)
    · intro k hkk
      rcases hkk with hy | hy | hy | hy | hy | hy
      · exact hs'.yl k (Or.inl hy)
      · exact hs'.yl k (Or.inr (Or.inl hy))
      · exact hs'.yl k (Or.inr (Or.inr (Or.inl hy)))
      · exact hs'.yl k (Or.inr (Or.inr (Or.inr (Or.inl hy))))
      · exact hs'.yl k (Or.inr (Or.inr (Or.inr (Or.inr (Or.inl hy)))))
      · exact ht.own_lt hy
  have hph := hZo ph (Or.inr (Or.inr (Or.inl rfl)))
  have htb := hZo tabB (Or.inr (Or.inr (Or.inr rfl)))
  have hps := hZo ps (Or.inr (Or.inl rfl))
  refine ⟨?_, ⟨⟨blk, hsv⟩, (hk.block ph hph).trans h.heap.hp, Or.inr (Or.inr (Or.inl rfl)), h.heap.tab.of_block (hk.block _ htb), Or.inr (Or.inr (Or.inr (Or.inl rfl)))⟩, ht, fun k hkk => ⟨(h.off k hkk).1, hv' k (hZo k hkk)⟩⟩
  rw [hk.block ps hps, h.hd, hm.1, hm.2]

/-- records apart, none too long -/
structure Inv (S : St) : Prop where
  len : ∀ (i : Nat) (h : i < S.t.slots.length), S.t.slots[i].is = 1 → S.a.rd (S.t.slots[i].addr + 1) ≤ 3998 ∧ S.t.slots[i].addr ≤ 1152921504606846976
  apart : ∀ (i j : Nat) (hi : i < S.t.slots.length) (hj : j < S.t.slots.length), i ≠ j → S.t.slots[i].is = 1 → S.t.slots[j].is = 1 →
    S.t.slots[i].addr + 2 + S.a.rd (S.t.slots[i].addr + 1) ≤ S.t.slots[j].addr ∨ S.t.slots[j].addr + 2 + S.a.rd (S.t.slots[j].addr + 1) ≤ S.t.slots[i].addr
theorem Lf.St.at_some {S : St} {h k : Nat} (hk : S.t.of h = some k) (hlt : k < S.t.slots.length) : S.at h = (S.t.slots[k].addr, S.a.rd (S.t.slots[k].addr + 1), 0) := by
  unfold St.at
  rw [tab_at_eq hk hlt]
  rfl
theorem Lf.St.at_none {S : St} {h : Nat} (hk : S.t.of h = none) : S.at h = (0, 0, 7) := by
  unfold St.at Tab.at
  rw [hk]
  rfl
theorem Inv.at_le {S : St} (hi : Inv S) (h : Nat) : (S.at h).2.1 ≤ 3998 := by
  cases hk : S.t.of h with
  | none => rw [St.at_none hk]; simp
  | some k =>
    obtain ⟨hlt, h1, _⟩ := Tab.of_lt hk
    rw [St.at_some hk hlt]
    exact (hi.len k hlt h1).1
theorem Inv.addr_le {S : St} (hi : Inv S) (h : Nat) : (S.at h).1 ≤ 1152921504606846976 := by
  cases hk : S.t.of h with
  | none => rw [St.at_none hk]; simp
  | some k =>
    obtain ⟨hlt, h1, _⟩ := Tab.of_lt hk
    rw [St.at_some hk hlt]
    exact (hi.len k hlt h1).2
theorem Lf.St.at_cases (S : St) (h : Nat) : (∃ addr n, S.at h = (addr, n, 0) ∧ S.t.at h = (addr, 0) ∧ S.a.rd (addr + 1) = n) ∨ (S.at h = (0, 0, 7) ∧ S.t.at h = (0, 7)) := by
  cases hk : S.t.of h with
  | none => exact Or.inr ⟨St.at_none hk, by unfold Tab.at; rw [hk]⟩
  | some k =>
    obtain ⟨hlt, _⟩ := Tab.of_lt hk
    exact Or.inl ⟨_, _, St.at_some hk hlt, tab_at_eq hk hlt, rfl⟩
def Lf.St.place (s : St) (h k : Nat) : Nat × Nat :=
  match s.at h with
  | (addr, n, 0) => if k < n then (addr + 2 + k, 0) else (0, 2)
  | (_, _, e) => (0, e)
theorem Lf.St.get_place (S : St) (h k : Nat) : S.get h k = match S.place h k with | (p, 0) => (S.a.rd p, S.a.err p) | (_, e) => (0, e) := by
  unfold St.get St.place
  rcases S.at_cases h with ⟨a, n, h1, _⟩ | ⟨h1, _⟩
  · rw [h1]; simp only; split <;> rfl
  · rw [h1]; rfl
theorem Lf.St.put_place (S : St) (h k w : Nat) : S.put h k w = match S.place h k with | (p, 0) => (S.a.err p, { S with a := S.a.wr p w }) | (_, e) => (e, S) := by
  unfold St.put St.place
  rcases S.at_cases h with ⟨a, n, h1, _⟩ | ⟨h1, _⟩
  · rw [h1]; simp only; split <;> rfl
  · rw [h1]; rfl
theorem Inv.place_le {S : St} (hi : Inv S) (h k : Nat) : (S.place h k).1 ≤ 2305843009213693952 := by
  have h2 := hi.addr_le h
  have h3 := hi.at_le h
  unfold St.place
  rcases S.at_cases h with ⟨a, n, h1, _⟩ | ⟨h1, _⟩
  · rw [h1] at h2 h3 ⊢; simp only at h2 h3 ⊢; split <;> simp; omega
  · rw [h1]; simp
theorem Lf.St.place_cases (S : St) (h k : Nat) : (∃ p, S.place h k = (p, 0)) ∨ (∃ e, S.place h k = (0, e + 1)) := by
  unfold St.place
  rcases S.at_cases h with ⟨a, n, h1, _⟩ | ⟨h1, _⟩
  · rw [h1]; simp only; split
    · exact Or.inl ⟨_, rfl⟩
    · exact Or.inr ⟨1, rfl⟩
  · rw [h1]; exact Or.inr ⟨6, rfl⟩
end Go.Proofs.YtepdkbmnkjfcpaaGreatDoor

namespace Go.Proofs.YtepdkbmnkjfcpaaGreatDoor
open Go.RowKit Go.BigFrame Go.Maps Go.WideMaps Lf

set_option maxRecDepth 100000 in
set_option maxHeartbeats 400000 in
theorem st_none {w : World} {ps : Nat} {S : St} {Y : Nat → Prop} (h : StOn w ps S Y) :
    Calls Tryz.prog 124 #[PV ps] w fun e w' => e = .returned (.bool false) ∧ w = w' := by
  obtain ⟨pa, pm, ph, pt, v, h⟩ := h
  obtain ⟨_, _, c2, _, _⟩ := h.cells
  clear h
  go_enter Tryz.func124, Tryz.ntmps124
  go_wp2
  go_ret
  exact ⟨rfl, rfl⟩

set_option maxRecDepth 100000 in
set_option maxHeartbeats 800000 in
theorem st_at {w : World} {ps : Nat} {S : St} {Y : Nat → Prop} (h : StOn w ps S Y) (hi : Inv S) (hh : Nat) (hl : hh < 18446744073709551616) :
    Calls Tryz.prog 117 #[PV ps, .int .u64 hh] w fun e w' => e = .returned (.tuple #[.int .i64 ((S.at hh).1 : Nat), .int .i64 ((S.at hh).2.1 : Nat), .int .i64 ((S.at hh).2.2 : Nat)]) ∧ w = w' := by
  have hno := st_none h
  have h3 := hi.at_le hh
  have h4 := hi.addr_le hh
  obtain ⟨pa, pm, ph, pt, v, h⟩ := h
  obtain ⟨_, _, c2, _, c4⟩ := h.cells
  have hta := tab_at h.tab hh hl
  rcases S.at_cases hh with ⟨a, n, h1, h2, hn⟩ | ⟨h1, h2⟩
  · rw [h1] at h3 h4 ⊢
    rw [h2] at hta
    simp only at h3 h4 hta ⊢
    have hrd := h.heap.read (a + 1) (by omega)
    rw [hn] at hrd
    have HG := Lib.hid (And.intro hno (And.intro hta hrd))
    clear hno hta h h1 h2 hn hrd
    go_enter Tryz.func117, Tryz.ntmps117
    go_wp2_with fail
    refine HG.out.1.mono ?_
    rintro e w1 ⟨rfl, rfl⟩
    go_wp2_with fail
    refine HG.out.2.1.mono ?_
    rintro e w1 ⟨rfl, rfl⟩
    go_wp2_with fail
    refine HG.out.2.2.mono ?_
    rintro e w1 ⟨rfl, rfl⟩
    go_wp2_with fail
    go_ret3
    exact ⟨rfl, rfl⟩
  · rw [h1]
    rw [h2] at hta
    simp only at hta ⊢
    have HG := Lib.hid (And.intro hno hta)
    clear hno hta h h1 h2
    go_enter Tryz.func117, Tryz.ntmps117
    go_wp2_with fail
    refine HG.out.1.mono ?_
    rintro e w1 ⟨rfl, rfl⟩
    go_wp2_with fail
    refine HG.out.2.mono ?_
    rintro e w1 ⟨rfl, rfl⟩
    go_wp2_with fail
    go_ret3
    exact ⟨rfl, rfl⟩

set_option maxRecDepth 100000 in
set_option maxHeartbeats 400000 in
theorem st_len {w : World} {ps : Nat} {S : St} {Y : Nat → Prop} (h : StOn w ps S Y) (hi : Inv S) (hh : Nat) (hl : hh < 18446744073709551616) :
    Calls Tryz.prog 85 #[PV ps, .int .u64 hh] w fun e w' => e = .returned (.tuple #[.int .i64 ((S.len hh).1 : Nat), .int .i64 ((S.len hh).2 : Nat)]) ∧ w = w' := by
  have hat := st_at h hi hh hl
  unfold St.len
  generalize S.at hh = r at *
  have HG := Lib.hid hat
  clear hat h hi
  go_enter Tryz.func85, Tryz.ntmps85
  go_wp2_with fail
  refine HG.out.mono ?_
  rintro e w1 ⟨rfl, rfl⟩
  go_wp2_with fail
  go_ret2
  exact ⟨rfl, rfl⟩

set_option maxRecDepth 100000 in
set_option maxHeartbeats 800000 in
theorem st_place {w : World} {ps : Nat} {S : St} {Y : Nat → Prop} (h : StOn w ps S Y) (hi : Inv S) (hh k : Nat) (hl : hh < 18446744073709551616) (hk : k ≤ 4611686018427387904) :
    Calls Tryz.prog 165 #[PV ps, .int .u64 hh, .int .i64 k] w fun e w' => e = .returned (.tuple #[.int .i64 ((S.place hh k).1 : Nat), .int .i64 ((S.place hh k).2 : Nat)]) ∧ w = w' := by
  have hat := st_at h hi hh hl
  have h3 := hi.at_le hh
  have h4 := hi.addr_le hh
  obtain ⟨R, hR⟩ : ∃ R, S.place hh k = R := ⟨_, rfl⟩
  rw [hR]
  unfold St.place at hR
  rcases S.at_cases hh with ⟨a, n, h1, _⟩ | ⟨h1, _⟩
  · rw [h1] at h3 h4 hat hR
    simp only at h3 h4 hat hR
    by_cases hkn : k < n
    · rw [if_pos hkn] at hR
      have hkn' : (k : Int) < n := by omega
      have HG := Lib.hid (And.intro hat hR)
      clear hat hR h hi h1 hkn
      go_enter Tryz.func165, Tryz.ntmps165
      go_wp2_with fail
      refine HG.out.1.mono ?_
      rintro e w1 ⟨rfl, rfl⟩
      go_wp2_with fail
      go_ret2
      obtain rfl := HG.out.2
      exact ⟨rfl, rfl⟩
    · rw [if_neg hkn] at hR
      have hkn' : (n : Int) ≤ k := by omega
      have HG := Lib.hid (And.intro hat hR)
      clear hat hR h hi h1 hkn
      go_enter Tryz.func165, Tryz.ntmps165
      go_wp2_with fail
      refine HG.out.1.mono ?_
      rintro e w1 ⟨rfl, rfl⟩
      go_wp2_with fail
      go_ret2
      obtain rfl := HG.out.2
      exact ⟨rfl, rfl⟩
  · rw [h1] at hat hR
    simp only at hat hR
    have HG := Lib.hid (And.intro hat hR)
    clear hat hR h hi h1
    go_enter Tryz.func165, Tryz.ntmps165
    go_wp2_with fail
    refine HG.out.1.mono ?_
    rintro e w1 ⟨rfl, rfl⟩
    go_wp2_with fail
    go_ret2
    obtain rfl := HG.out.2
    exact ⟨rfl, rfl⟩

set_option maxRecDepth 100000 in
set_option maxHeartbeats 800000 in
theorem st_get {w : World} {ps : Nat} {S : St} {Y : Nat → Prop} (h : StOn w ps S Y) (hi : Inv S) (hh k : Nat) (hl : hh < 18446744073709551616) (hk : k ≤ 4611686018427387904) :
    Calls Tryz.prog 119 #[PV ps, .int .u64 hh, .int .i64 k] w fun e w' => e = .returned (.tuple #[.int .u64 ((S.get hh k).1 : Nat), .int .i64 ((S.get hh k).2 : Nat)]) ∧ w = w' := by
  have hpl := st_place h hi hh k hl hk
  have h3 := hi.place_le hh k
  obtain ⟨pa, pm, ph, pt, v, h⟩ := h
  obtain ⟨_, _, c2, _, _⟩ := h.cells
  obtain ⟨R, hR⟩ : ∃ R, S.get hh k = R := ⟨_, rfl⟩
  rw [hR]
  rw [St.get_place] at hR
  rcases S.place_cases hh k with ⟨p, h1⟩ | ⟨er, h1⟩
  · rw [h1] at hpl h3 hR
    simp only at hpl h3 hR
    have hrd := h.heap.read p (by omega)
    have HG := Lib.hid (And.intro hpl (And.intro hR hrd))
    clear hpl hR h hi h1 hrd
    go_enter Tryz.func119, Tryz.ntmps119
    go_wp2_with fail
    refine HG.out.1.mono ?_
    rintro e w1 ⟨rfl, rfl⟩
    go_wp2_with fail
    refine HG.out.2.2.mono ?_
    rintro e w1 ⟨rfl, rfl⟩
    go_wp2_with fail
    go_ret2
    obtain rfl := HG.out.2.1
    exact ⟨rfl, rfl⟩
  · rw [h1] at hpl hR
    simp only at hpl hR
    have hq1 : (((er + 1 : Nat) : Int) != 0) = true := by simp; omega
    obtain ⟨g1, hg1⟩ : ∃ g1, er + 1 = g1 := ⟨_, rfl⟩
    rw [hg1] at hpl hR hq1
    have HG := Lib.hid (And.intro hpl hR)
    clear hpl hR h hi h1 hg1
    go_enter Tryz.func119, Tryz.ntmps119
    go_wp2_with fail
    refine HG.out.1.mono ?_
    rintro e w1 ⟨rfl, rfl⟩
    go_wp2_with fail
    go_ret2
    obtain rfl := HG.out.2
    exact ⟨rfl, rfl⟩

set_option maxRecDepth 100000 in
set_option maxHeartbeats 800000 in
theorem st_put {w : World} {ps : Nat} {S : St} {Y : Nat → Prop} (h : StOn w ps S Y) (hi : Inv S) (hh k x : Nat) (hl : hh < 18446744073709551616) (hk : k ≤ 4611686018427387904) (hx : x < 18446744073709551616) :
    Calls Tryz.prog 121 #[PV ps, .int .u64 hh, .int .i64 k, .int .u64 x] w fun e w' => e = .returned (.int .i64 ((S.put hh k x).1 : Nat)) ∧ StOn w' ps (S.put hh k x).2 Y ∧ Keep Y w w' := by
  have hpl := st_place h hi hh k hl hk
  have h3 := hi.place_le hh k
  have hY := h.yl
  obtain ⟨R, hR⟩ : ∃ R, S.put hh k x = R := ⟨_, rfl⟩
  rw [hR]
  rw [St.put_place] at hR
  rcases S.place_cases hh k with ⟨p, h1⟩ | ⟨er, h1⟩
  · rw [h1] at hpl h3 hR
    simp only at hpl h3 hR
    obtain ⟨pa, pm, ph, pt, v, h⟩ := h
    obtain ⟨_, _, c2, _, _⟩ := h.cells
    have hwr := h.heap.write p x (by omega) hx
    have HG := Lib.hid (And.intro hpl (And.intro hR (And.intro hwr h)))
    clear hpl hR h hi h1 hwr hY
    go_enter Tryz.func121, Tryz.ntmps121
    go_wp2_with fail
    refine HG.out.1.mono ?_
    rintro e w1 ⟨rfl, rfl⟩
    go_wp2_with fail
    refine HG.out.2.2.1.mono ?_
    rintro e w1 ⟨rfl, ha, hkp⟩
    have HA := Lib.hid (And.intro (HG.out.2.2.2.arena ha hkp) (hkp.mono fun _ => YS.self))
    clear ha hkp
    go_wp2_with fail
    go_ret
    obtain rfl := HG.out.2.1
    exact ⟨rfl, ⟨_, _, _, _, _, HA.out.1⟩, HA.out.2⟩
  · rw [h1] at hpl hR
    simp only at hpl hR
    have hq1 : (((er + 1 : Nat) : Int) != 0) = true := by simp; omega
    obtain ⟨g1, hg1⟩ : ∃ g1, er + 1 = g1 := ⟨_, rfl⟩
    rw [hg1] at hpl hR hq1
    have HG := Lib.hid (And.intro hpl (And.intro hR h))
    clear hpl hR h hi h1 hg1 hY
    go_enter Tryz.func121, Tryz.ntmps121
    go_wp2_with fail
    refine HG.out.1.mono ?_
    rintro e w1 ⟨rfl, rfl⟩
    go_wp2_with fail
    go_ret
    obtain rfl := HG.out.2.1
    exact ⟨rfl, HG.out.2.2, Keep.refl _ _⟩
end Go.Proofs.YtepdkbmnkjfcpaaGreatDoor
