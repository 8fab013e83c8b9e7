import Derived.Test.YtcibkdbpicledaaGreatDoorWag
import Derived.Sort.BigQuietIn
set_option maxRecDepth 100000
set_option maxHeartbeats 1600000
namespace Go.Proofs.YtcibkdbpicledaaGreatDoor
open Go.RowKit Go.BigFrame Go.Maps Go.WideMaps Lf
theorem TabOn.of_keep {w w' : World} {pt : Nat} {t : Tab} {v : Value} (h : TabOn w pt t v) (hp : w'.heap[pt]? = w.heap[pt]?) (hv : ∀ b, v.ownBlock = some b → w'.heap[b]? = w.heap[b]?) : TabOn w' pt t v where
 wf := h.wf
 hd := hp.trans h.hd
 row := by
  refine ⟨h.row.1, ?_⟩
  rcases h.row.2 with hn | ⟨g, cap, cur, rfl, hb, hg, rest⟩
  · exact Or.inl hn
  · exact Or.inr ⟨g, cap, cur, rfl, hb, (hv g rfl).trans hg, rest⟩
theorem TabOn.own_lt {w : World} {pt : Nat} {t : Tab} {v : Value} (h : TabOn w pt t v) {b : Nat} (hb : v.ownBlock = some b) : b < w.heap.size := by
 rcases h.row.2 with ⟨rfl, _⟩ | ⟨g, cap, cur, rfl, _, hg, _⟩
 · cases hb
 · injection hb with hb
   have hb : g = b := hb
   subst hb
   exact (gl hg)
def YS (Y : Nat → Prop) (ps ph pt : Nat) (v : Value) : Nat → Prop := fun k => Y k ∨ k = ps ∨ k = ph ∨ k = tabB ∨ k = pt ∨ v.ownBlock = some k
structure StIn (w : World) (ps pa pm ph pt : Nat) (v : Value) (S : St) (Y : Nat → Prop) : Prop where
 hd : w.heap[ps]? = some (.cells #[.int .i64 S.t.most, .int .u32 S.t.last, PV pa, PV ph, PV pt] 130 (0, 0))
 heap : HeapOn w ph pa pm S.a (YS Y ps ph pt v)
 tab : TabOn w pt S.t v
 off : ∀ k, (Y k ∨ k = ps ∨ k = ph ∨ k = tabB) → k ≠ pt ∧ v.ownBlock ≠ some k
def StOn (w : World) (ps : Nat) (S : St) (Y : Nat → Prop) : Prop := ∃ pa pm ph pt v, StIn w ps pa pm ph pt v S Y
theorem StIn.cells {w : World} {ps pa pm ph pt : Nat} {v : Value} {S : St} {Y : Nat → Prop} (h : StIn w ps pa pm ph pt v S Y) :
 w.cell? ⟨ps, 0, none⟩ = some (.int .i64 S.t.most) ∧ w.cell? ⟨ps, 1, none⟩ = some (.int .u32 S.t.last) ∧ w.cell? ⟨ps, 2, none⟩ = some (PV pa) ∧ w.cell? ⟨ps, 3, none⟩ = some (PV ph) ∧ w.cell? ⟨ps, 4, none⟩ = some (PV pt) := by
 refine ⟨?_, ?_, ?_, ?_, ?_⟩ <;> · rw [cell_of_block h.hd]; rfl
theorem StIn.below {w w' : World} {ps pa pm ph pt : Nat} {v : Value} {S : St} {Y : Nat → Prop} (h : StIn w ps pa pm ph pt v S Y) (hb : Below w.heap.size w w') : StIn w' ps pa pm ph pt v S Y where
 hd := by rw [hb.block ps (gl h.hd)]; exact h.hd
 heap := h.heap.below hb
 tab := h.tab.of_keep (hb.block _ h.tab.pt_lt) fun b e => hb.block _ (h.tab.own_lt e)
 off := h.off
theorem StOn.below {w w' : World} {ps : Nat} {S : St} {Y : Nat → Prop} (h : StOn w ps S Y) (hb : Below w.heap.size w w') : StOn w' ps S Y := by
 obtain ⟨pa, pm, ph, pt, v, h⟩ := h
 exact ⟨pa, pm, ph, pt, v, h.below hb⟩
theorem StIn.yl {w : World} {ps pa pm ph pt : Nat} {v : Value} {S : St} {Y : Nat → Prop} (h : StIn w ps pa pm ph pt v S Y) : ∀ k, Y k → k < w.heap.size := fun k hk => h.heap.yl k (Or.inl hk)
theorem StOn.yl {w : World} {ps : Nat} {S : St} {Y : Nat → Prop} (h : StOn w ps S Y) : ∀ k, Y k → k < w.heap.size := by
 obtain ⟨pa, pm, ph, pt, v, h⟩ := h
 exact h.yl
theorem StOn.keep {w w' : World} {ps : Nat} {S : St} {Y : Nat → Prop} (h : StOn w ps S Y) (hb : Below w.heap.size w w') : Keep Y w w' := Keep.of_below hb h.yl
theorem StOn.drewN {w : World} {ps : Nat} {S : St} {Y : Nat → Prop} (h : StOn w ps S Y) (n : Nat) : StOn (w.drewN n) ps S Y := h.below ⟨rfl, rfl, rfl, Nat.le_refl _, fun _ _ => rfl⟩
theorem StOn.mono {w : World} {ps : Nat} {S : St} {Y Z : Nat → Prop} (h : StOn w ps S Y) (hz : ∀ k, Z k → Y k) : StOn w ps S Z := by
 obtain ⟨pa, pm, ph, pt, v, h⟩ := h
 refine ⟨pa, pm, ph, pt, v, h.hd, h.heap.mono (fun k hk => hk.imp (hz k) id) (Or.inr (Or.inr (Or.inl rfl))) (Or.inr (Or.inr (Or.inr (Or.inl rfl)))), h.tab, fun k hk => h.off k (hk.imp (hz k) id)⟩
theorem StOn.wide {w w' : World} {ps : Nat} {S : St} {Y : Nat → Prop} (h : StOn w ps S Y) (hb : Below w.heap.size w w') : StOn w' ps S (fun k => Y k ∨ (w.heap.size ≤ k ∧ k < w'.heap.size)) := by
 obtain ⟨pa, pm, ph, pt, v, h⟩ := h
 have h' := h.below hb
 refine ⟨pa, pm, ph, pt, v, h'.hd, ?_, h'.tab, ?_⟩
 · refine (h.heap.wide hb).mono ?_ (Or.inr (Or.inr (Or.inl rfl))) (Or.inr (Or.inr (Or.inr (Or.inl rfl))))
   rintro k ((hk | hk) | hk)
   · exact Or.inl (Or.inl hk)
   · exact Or.inr hk
   · exact Or.inl (Or.inr hk)
 · rintro k ((hk | hk) | hk)
   · exact h.off k (Or.inl hk)
   · have h1 := h.tab.pt_lt
     refine ⟨by omega, fun e => ?_⟩
     have := h.tab.own_lt e
     omega
   · exact h.off k (Or.inr hk)
theorem StIn.arena {w w' : World} {ps pa pm ph pt : Nat} {v : Value} {S : St} {Y : Nat → Prop} (h : StIn w ps pa pm ph pt v S Y) {a : Slab} (ha : HeapOn w' ph pa pm a (YS Y ps ph pt v)) (hk : Keep (YS Y ps ph pt v) w w') : StIn w' ps pa pm ph pt v ⟨a, S.t⟩ Y where
 hd := (hk.block ps (Or.inr (Or.inl rfl))).trans h.hd
 heap := ha
 tab := h.tab.of_keep (hk.block pt (Or.inr (Or.inr (Or.inr (Or.inr (Or.inl rfl)))))) fun b e => hk.block b (Or.inr (Or.inr (Or.inr (Or.inr (Or.inr e)))))
 off := h.off
theorem YS.self {Y : Nat → Prop} {ps ph pt : Nat} {v : Value} {k : Nat} (h : Y k) : YS Y ps ph pt v k := Or.inl h
theorem StIn.table {w w' : World} {ps pa pm ph pt : Nat} {v v' : Value} {S : St} {Y : Nat → Prop} (h : StIn w ps pa pm ph pt v S Y) {t : Tab} (ht : TabOn w' pt t v') (hm : t.most = S.t.most ∧ t.last = S.t.last)
 (Z : Nat → Prop) (hZ : ∀ k, k < w.heap.size → k ≠ pt → v.ownBlock ≠ some k → Z k) (hk : Keep Z w w') (hv' : ∀ b, Z b → v'.ownBlock ≠ some b) : StIn w' ps pa pm ph pt v' ⟨S.a, t⟩ Y := by
 have hlt : ∀ k, (Y k ∨ k = ps ∨ k = ph ∨ k = tabB) → k < w.heap.size := fun k hk => h.heap.yl k (by
  rcases hk with hk | hk | hk | hk
  · exact Or.inl hk
  · exact Or.inr (Or.inl hk)
  · exact Or.inr (Or.inr (Or.inl hk))
  · exact Or.inr (Or.inr (Or.inr (Or.inl hk))))
 have hZo : ∀ k, (Y k ∨ k = ps ∨ k = ph ∨ k = tabB) → Z k := fun k hk => hZ k (hlt k hk) (h.off k hk).1 (h.off k hk).2
 obtain ⟨blk, hs⟩ := h.heap.slab
 have hzs : ∀ k, k < w.heap.size → (k = pa ∨ k = pm ∨ ∃ p ∈ S.a.keys, k = blk p) → Z k := fun k hkl hk => by
  have hny : ¬ YS Y ps ph pt v k := by
   rcases hk with rfl | rfl | ⟨p, hp, rfl⟩
   · exact hs.ya
   · exact hs.ym
   · exact hs.yp p hp
  exact hZ k hkl (fun e => hny (Or.inr (Or.inr (Or.inr (Or.inr (Or.inl e)))))) (fun e => hny (Or.inr (Or.inr (Or.inr (Or.inr (Or.inr e))))))
 have hs' : SlabOn w' pa pm S.a (YS Y ps ph pt v) blk := hs.of_keep hk.size fun k hkl hkk => hk.block k (hzs k hkl hkk)
 have hsv : SlabOn w' pa pm S.a (YS Y ps ph pt v') blk := by
  have key : ∀ k, k < w.heap.size → (k = pa ∨ k = pm ∨ ∃ p ∈ S.a.keys, k = blk p) → ¬ YS Y ps ph pt v k → ¬ YS Y ps ph pt v' k := fun k hkl hkk hn hy => by
   rcases hy with hy | hy | hy | hy | hy | hy
   · exact hn (Or.inl hy)
   · exact hn (Or.inr (Or.inl hy))
   · exact hn (Or.inr (Or.inr (Or.inl hy)))
   · exact hn (Or.inr (Or.inr (Or.inr (Or.inl hy))))
   · exact hn (Or.inr (Or.inr (Or.inr (Or.inr (Or.inl hy)))))
   · exact hv' k (hzs k hkl hkk) hy
  refine ⟨hs'.wf, hs'.hd, hs'.map, hs'.pg, hs'.inj, ?_, ?_, ?_, ?_⟩
  · exact key pa (gl hs.hd) (Or.inl rfl) hs.ya
  · exact key pm hs.map.lt (Or.inr (Or.inl rfl)) hs.ym
  · intro p hp
    obtain ⟨l, hl⟩ := keys_mem.1 hp
    exact key _ (gl (hs.pg _ hl)) (Or.inr (Or.inr ⟨p, hp, rfl⟩)) (hs.yp p hp)
  · intro k hkk
    rcases hkk with hy | hy | hy | hy | hy | hy
    · exact hs'.yl k (Or.inl hy)
    · exact hs'.yl k (Or.inr (Or.inl hy))
    · exact hs'.yl k (Or.inr (Or.inr (Or.inl hy)))
    · exact hs'.yl k (Or.inr (Or.inr (Or.inr (Or.inl hy))))
    · exact hs'.yl k (Or.inr (Or.inr (Or.inr (Or.inr (Or.inl hy)))))
    · exact ht.own_lt hy
 have hph := hZo ph (Or.inr (Or.inr (Or.inl rfl)))
 have htb := hZo tabB (Or.inr (Or.inr (Or.inr rfl)))
 have hps := hZo ps (Or.inr (Or.inl rfl))
 refine ⟨?_, ⟨⟨blk, hsv⟩, (hk.block ph hph).trans h.heap.hp, Or.inr (Or.inr (Or.inl rfl)), h.heap.tab.of_block (hk.block _ htb), Or.inr (Or.inr (Or.inr (Or.inl rfl)))⟩, ht, fun k hkk => ⟨(h.off k hkk).1, hv' k (hZo k hkk)⟩⟩
 rw [hk.block ps hps, h.hd, hm.1, hm.2]
structure Inv (S : St) : Prop where
 len : ∀ (i : Nat) (h : i < S.t.slots.length), S.t.slots[i].is = 1 → S.a.rd (S.t.slots[i].addr + 1) ≤ 3998 ∧ S.t.slots[i].addr ≤ 1152921504606846976
 apart : ∀ (i j : Nat) (hi : i < S.t.slots.length) (hj : j < S.t.slots.length), i ≠ j → S.t.slots[i].is = 1 → S.t.slots[j].is = 1 →
  S.t.slots[i].addr + 2 + S.a.rd (S.t.slots[i].addr + 1) ≤ S.t.slots[j].addr ∨ S.t.slots[j].addr + 2 + S.a.rd (S.t.slots[j].addr + 1) ≤ S.t.slots[i].addr
theorem Lf.St.at_some {S : St} {h k : Nat} (hk : S.t.of h = some k) (hlt : k < S.t.slots.length) : S.at h = (S.t.slots[k].addr, S.a.rd (S.t.slots[k].addr + 1), 0) := by
 unfold St.at
 rw [tab_at_eq hk hlt]
 rfl
theorem Lf.St.at_none {S : St} {h : Nat} (hk : S.t.of h = none) : S.at h = (0, 0, 7) := by
 unfold St.at Tab.at
 rw [hk]
 rfl
theorem Inv.at_le {S : St} (hi : Inv S) (h : Nat) : (S.at h).2.1 ≤ 3998 := by
 cases hk : S.t.of h with
 | none => rw [St.at_none hk]; simp
 | some k =>
  obtain ⟨hlt, h1, _⟩ := Tab.of_lt hk
  rw [St.at_some hk hlt]
  exact (hi.len k hlt h1).1
theorem Inv.addr_le {S : St} (hi : Inv S) (h : Nat) : (S.at h).1 ≤ 1152921504606846976 := by
 cases hk : S.t.of h with
 | none => rw [St.at_none hk]; simp
 | some k =>
  obtain ⟨hlt, h1, _⟩ := Tab.of_lt hk
  rw [St.at_some hk hlt]
  exact (hi.len k hlt h1).2
theorem Lf.St.at_cases (S : St) (h : Nat) : (∃ addr n, S.at h = (addr, n, 0) ∧ S.t.at h = (addr, 0) ∧ S.a.rd (addr + 1) = n) ∨ (S.at h = (0, 0, 7) ∧ S.t.at h = (0, 7)) := by
 cases hk : S.t.of h with
 | none => exact Or.inr ⟨St.at_none hk, by unfold Tab.at; rw [hk]⟩
 | some k =>
  obtain ⟨hlt, _⟩ := Tab.of_lt hk
  exact Or.inl ⟨_, _, St.at_some hk hlt, tab_at_eq hk hlt, rfl⟩
def Lf.St.place (s : St) (h k : Nat) : Nat × Nat :=
 match s.at h with
 | (addr, n, 0) => if k < n then (addr + 2 + k, 0) else (0, 2)
 | (_, _, e) => (0, e)
theorem Lf.St.get_place (S : St) (h k : Nat) : S.get h k = match S.place h k with | (p, 0) => (S.a.rd p, S.a.err p) | (_, e) => (0, e) := by
 unfold St.get St.place
 rcases S.at_cases h with ⟨a, n, h1, _⟩ | ⟨h1, _⟩
 · rw [h1]; simp only; split <;> rfl
 · rw [h1]; rfl
theorem Lf.St.put_place (S : St) (h k w : Nat) : S.put h k w = match S.place h k with | (p, 0) => (S.a.err p, { S with a := S.a.wr p w }) | (_, e) => (e, S) := by
 unfold St.put St.place
 rcases S.at_cases h with ⟨a, n, h1, _⟩ | ⟨h1, _⟩
 · rw [h1]; simp only; split <;> rfl
 · rw [h1]; rfl
theorem Inv.place_le {S : St} (hi : Inv S) (h k : Nat) : (S.place h k).1 ≤ 2305843009213693952 := by
 have h2 := hi.addr_le h
 have h3 := hi.at_le h
 unfold St.place
 rcases S.at_cases h with ⟨a, n, h1, _⟩ | ⟨h1, _⟩
 · rw [h1] at h2 h3 ⊢; simp only at h2 h3 ⊢; split <;> simp; omega
 · rw [h1]; simp
theorem Lf.St.place_cases (S : St) (h k : Nat) : (∃ p, S.place h k = (p, 0)) ∨ (∃ e, S.place h k = (0, e + 1)) := by
 unfold St.place
 rcases S.at_cases h with ⟨a, n, h1, _⟩ | ⟨h1, _⟩
 · rw [h1]; simp only; split
   · exact Or.inl ⟨_, rfl⟩
   · exact Or.inr ⟨1, rfl⟩
 · rw [h1]; exact Or.inr ⟨6, rfl⟩
theorem st_none {w : World} {ps : Nat} {S : St} {Y : Nat → Prop} (h : StOn w ps S Y) :
 Calls Tryz.prog 90 #[PV ps] w fun e w' => e = .returned (.bool false) ∧ w = w' := by
 obtain ⟨pa, pm, ph, pt, v, h⟩ := h
 obtain ⟨_, _, c2, _, _⟩ := h.cells
 clear h
 go_enter Tryz.func90, Tryz.ntmps90
 go_wp2
 go_ret
 exact ⟨rfl, rfl⟩
theorem st_at {w : World} {ps : Nat} {S : St} {Y : Nat → Prop} (h : StOn w ps S Y) (hi : Inv S) (hh : Nat) (hl : hh < 18446744073709551616) :
 Calls Tryz.prog 100 #[PV ps, .int .u64 hh] w fun e w' => e = .returned (.tuple #[.int .i64 ((S.at hh).1 : Nat), .int .i64 ((S.at hh).2.1 : Nat), .int .i64 ((S.at hh).2.2 : Nat)]) ∧ w = w' := by
 have hno := st_none h
 have h3 := hi.at_le hh
 have h4 := hi.addr_le hh
 obtain ⟨pa, pm, ph, pt, v, h⟩ := h
 obtain ⟨_, _, c2, _, c4⟩ := h.cells
 have hta := tab_at h.tab hh hl
 rcases S.at_cases hh with ⟨a, n, h1, h2, hn⟩ | ⟨h1, h2⟩
 · rw [h1] at h3 h4 ⊢
   rw [h2] at hta
   simp only at h3 h4 hta ⊢
   have hrd := h.heap.read (a + 1) (by omega)
   rw [hn] at hrd
   have HG := kq3 hno hta hrd
   clear hno hta h h1 h2 hn hrd
   go_enter Tryz.func100, Tryz.ntmps100
   go_wp2_with fail
   refine HG.out.1.mono ?_
   rintro e w1 ⟨rfl, rfl⟩
   go_wp2_with fail
   refine HG.out.2.1.mono ?_
   rintro e w1 ⟨rfl, rfl⟩
   go_wp2_with fail
   refine HG.out.2.2.mono ?_
   rintro e w1 ⟨rfl, rfl⟩
   go_wp2_with fail
   go_ret3
   exact ⟨rfl, rfl⟩
 · rw [h1]
   rw [h2] at hta
   simp only at hta ⊢
   have HG := kq2 hno hta
   clear hno hta h h1 h2
   go_enter Tryz.func100, Tryz.ntmps100
   go_wp2_with fail
   refine HG.out.1.mono ?_
   rintro e w1 ⟨rfl, rfl⟩
   go_wp2_with fail
   refine HG.out.2.mono ?_
   rintro e w1 ⟨rfl, rfl⟩
   go_wp2_with fail
   go_ret3
   exact ⟨rfl, rfl⟩
theorem st_len {w : World} {ps : Nat} {S : St} {Y : Nat → Prop} (h : StOn w ps S Y) (hi : Inv S) (hh : Nat) (hl : hh < 18446744073709551616) :
 Calls Tryz.prog 85 #[PV ps, .int .u64 hh] w fun e w' => e = .returned (.tuple #[.int .i64 ((S.len hh).1 : Nat), .int .i64 ((S.len hh).2 : Nat)]) ∧ w = w' := by
 have hat := st_at h hi hh hl
 unfold St.len
 generalize S.at hh = r at *
 have HG := Lib.hid hat
 clear hat h hi
 go_enter Tryz.func85, Tryz.ntmps85
 go_wp2_with fail
 refine HG.out.mono ?_
 rintro e w1 ⟨rfl, rfl⟩
 go_wp2_with fail
 go_ret2
 exact ⟨rfl, rfl⟩
theorem st_place {w : World} {ps : Nat} {S : St} {Y : Nat → Prop} (h : StOn w ps S Y) (hi : Inv S) (hh k : Nat) (hl : hh < 18446744073709551616) (hk : k ≤ 4611686018427387904) :
 Calls Tryz.prog 123 #[PV ps, .int .u64 hh, .int .i64 k] w fun e w' => e = .returned (.tuple #[.int .i64 ((S.place hh k).1 : Nat), .int .i64 ((S.place hh k).2 : Nat)]) ∧ w = w' := by
 have hat := st_at h hi hh hl
 have h3 := hi.at_le hh
 have h4 := hi.addr_le hh
 obtain ⟨R, hR⟩ : ∃ R, S.place hh k = R := ⟨_, rfl⟩
 rw [hR]
 unfold St.place at hR
 rcases S.at_cases hh with ⟨a, n, h1, _⟩ | ⟨h1, _⟩
 · rw [h1] at h3 h4 hat hR
   simp only at h3 h4 hat hR
   by_cases hkn : k < n
   · rw [if_pos hkn] at hR
     have hkn' : (k : Int) < n := by omega
     have HG := kq2 hat hR
     clear hat hR h hi h1 hkn
     go_enter Tryz.func123, Tryz.ntmps123
     go_wp2_with fail
     refine HG.out.1.mono ?_
     rintro e w1 ⟨rfl, rfl⟩
     go_wp2_with fail
     go_ret2
     obtain rfl := HG.out.2
     exact ⟨rfl, rfl⟩
   · rw [if_neg hkn] at hR
     have hkn' : (n : Int) ≤ k := by omega
     have HG := kq2 hat hR
     clear hat hR h hi h1 hkn
     go_enter Tryz.func123, Tryz.ntmps123
     go_wp2_with fail
     refine HG.out.1.mono ?_
     rintro e w1 ⟨rfl, rfl⟩
     go_wp2_with fail
     go_ret2
     obtain rfl := HG.out.2
     exact ⟨rfl, rfl⟩
 · rw [h1] at hat hR
   simp only at hat hR
   have HG := kq2 hat hR
   clear hat hR h hi h1
   go_enter Tryz.func123, Tryz.ntmps123
   go_wp2_with fail
   refine HG.out.1.mono ?_
   rintro e w1 ⟨rfl, rfl⟩
   go_wp2_with fail
   go_ret2
   obtain rfl := HG.out.2
   exact ⟨rfl, rfl⟩
theorem st_get {w : World} {ps : Nat} {S : St} {Y : Nat → Prop} (h : StOn w ps S Y) (hi : Inv S) (hh k : Nat) (hl : hh < 18446744073709551616) (hk : k ≤ 4611686018427387904) :
 Calls Tryz.prog 96 #[PV ps, .int .u64 hh, .int .i64 k] w fun e w' => e = .returned (.tuple #[.int .u64 ((S.get hh k).1 : Nat), .int .i64 ((S.get hh k).2 : Nat)]) ∧ w = w' := by
 have hpl := st_place h hi hh k hl hk
 have h3 := hi.place_le hh k
 obtain ⟨pa, pm, ph, pt, v, h⟩ := h
 obtain ⟨_, _, c2, _, _⟩ := h.cells
 obtain ⟨R, hR⟩ : ∃ R, S.get hh k = R := ⟨_, rfl⟩
 rw [hR]
 rw [St.get_place] at hR
 rcases S.place_cases hh k with ⟨p, h1⟩ | ⟨er, h1⟩
 · rw [h1] at hpl h3 hR
   simp only at hpl h3 hR
   have hrd := h.heap.read p (by omega)
   have HG := kq3 hpl hR hrd
   clear hpl hR h hi h1 hrd
   go_enter Tryz.func96, Tryz.ntmps96
   go_wp2_with fail
   refine HG.out.1.mono ?_
   rintro e w1 ⟨rfl, rfl⟩
   go_wp2_with fail
   refine HG.out.2.2.mono ?_
   rintro e w1 ⟨rfl, rfl⟩
   go_wp2_with fail
   go_ret2
   obtain rfl := HG.out.2.1
   exact ⟨rfl, rfl⟩
 · rw [h1] at hpl hR
   simp only at hpl hR
   have hq1 : (((er + 1 : Nat) : Int) != 0) = true := by simp; omega
   obtain ⟨g1, hg1⟩ : ∃ g1, er + 1 = g1 := ⟨_, rfl⟩
   rw [hg1] at hpl hR hq1
   have HG := kq2 hpl hR
   clear hpl hR h hi h1 hg1
   go_enter Tryz.func96, Tryz.ntmps96
   go_wp2_with fail
   refine HG.out.1.mono ?_
   rintro e w1 ⟨rfl, rfl⟩
   go_wp2_with fail
   go_ret2
   obtain rfl := HG.out.2
   exact ⟨rfl, rfl⟩
theorem st_put {w : World} {ps : Nat} {S : St} {Y : Nat → Prop} (h : StOn w ps S Y) (hi : Inv S) (hh k x : Nat) (hl : hh < 18446744073709551616) (hk : k ≤ 4611686018427387904) (hx : x < 18446744073709551616) :
 Calls Tryz.prog 99 #[PV ps, .int .u64 hh, .int .i64 k, .int .u64 x] w fun e w' => e = .returned (.int .i64 ((S.put hh k x).1 : Nat)) ∧ StOn w' ps (S.put hh k x).2 Y ∧ Keep Y w w' := by
 have hpl := st_place h hi hh k hl hk
 have h3 := hi.place_le hh k
 have hY := h.yl
 obtain ⟨R, hR⟩ : ∃ R, S.put hh k x = R := ⟨_, rfl⟩
 rw [hR]
 rw [St.put_place] at hR
 rcases S.place_cases hh k with ⟨p, h1⟩ | ⟨er, h1⟩
 · rw [h1] at hpl h3 hR
   simp only at hpl h3 hR
   obtain ⟨pa, pm, ph, pt, v, h⟩ := h
   obtain ⟨_, _, c2, _, _⟩ := h.cells
   have hwr := h.heap.write p x (by omega) hx
   have HG := kq4 hpl hR hwr h
   clear hpl hR h hi h1 hwr hY
   go_enter Tryz.func99, Tryz.ntmps99
   go_wp2_with fail
   refine HG.out.1.mono ?_
   rintro e w1 ⟨rfl, rfl⟩
   go_wp2_with fail
   refine HG.out.2.2.1.mono ?_
   rintro e w1 ⟨rfl, ha, hkp⟩
   have HA := kq2 (HG.out.2.2.2.arena ha hkp) (hkp.mono fun _ => YS.self)
   clear ha hkp
   go_wp2_with fail
   go_ret
   obtain rfl := HG.out.2.1
   exact ⟨rfl, ⟨_, _, _, _, _, HA.out.1⟩, HA.out.2⟩
 · rw [h1] at hpl hR
   simp only at hpl hR
   have hq1 : (((er + 1 : Nat) : Int) != 0) = true := by simp; omega
   obtain ⟨g1, hg1⟩ : ∃ g1, er + 1 = g1 := ⟨_, rfl⟩
   rw [hg1] at hpl hR hq1
   have HG := kq3 hpl hR h
   clear hpl hR h hi h1 hg1 hY
   go_enter Tryz.func99, Tryz.ntmps99
   go_wp2_with fail
   refine HG.out.1.mono ?_
   rintro e w1 ⟨rfl, rfl⟩
   go_wp2_with fail
   go_ret
   obtain rfl := HG.out.2.1
   exact ⟨rfl, HG.out.2.2, Keep.refl _ _⟩
end Go.Proofs.YtcibkdbpicledaaGreatDoor
namespace Go.Proofs.YtcibkdbpicledaaGreatDoor
open Go.RowKit
section
variable {F : Fence} {n : Nat} {P : Program} {ops : Array Oper} {md : Region.Mode} {C : World → Prop}
def noDefer (ops : Array Oper) : Bool := ops.all fun o => match o.op with | .defer _ => false | _ => true
theorem noDefer_at (h : noDefer ops = true) {i : Nat} {o : Oper} (ho : ops[i]? = some o) : ∀ c, o.op ≠ .defer c := fun c hc => by
 obtain ⟨hi, rfl⟩ := Array.getElem?_eq_some_iff.1 ho
 have := Array.all_eq_true.1 h i hi
 rw [hc] at this
 cases this
theorem wpIn_of_quietR {o : Oper} {a : Act} {K : Act → Prop} {K' : Act → World → Prop} {Q' : Exit → Act → World → Prop} {w : World} (hnd : ∀ c, o.op ≠ .defer c) (hw : C w) (h : ∀ a w', C w' → K a → K' a w')
 (ha : o.askedIn F P a C) (hh : o.quietIn F n P a C K) : o.wpIn F n P a w K' Q' := by
 obtain ⟨v, h1, h2⟩ := hh
 have h3 := h1 w hw
 unfold Oper.quietAtIn at h3
 unfold Oper.wpIn
 refine ⟨ha w hw, ?_⟩
 rw [Oper.semAt_eq _ _ _ hnd]
 generalize (execOp a.eval o).run P w = r at *
 cases r with
 | ok x w' =>
  cases x <;> simp only [Oper.quietUponIn] at h3 <;> simp only [Oper.uponIn]
  case value u =>
   obtain ⟨e1, e2⟩ := h3
   rw [e1, e2]
   exact h _ _ hw h2
  case skip =>
   obtain ⟨e1, e2⟩ := h3
   rw [e1, ← e2]
   exact h _ _ hw h2
  case enter f args =>
   obtain ⟨e1, hd, hc⟩ := h3
   rw [e1]
   exact ⟨hd, hc.mono fun e w'' ⟨he, hw''⟩ => by subst he; exact h _ _ hw'' h2⟩
 | halt x w' => simp only [Oper.quietUponIn] at h3
theorem wpOpIn_of_qOpInR {i : Nat} {a : Act} {K : Act → Prop} {K' : Act → World → Prop} {Q' : Exit → Act → World → Prop} {w : World} (hnd : noDefer ops = true) (hC : C w) (h : ∀ a w', C w' → K a → K' a w')
 (hh : qOpIn F n P ops C i K a) : wpOpIn F n P ops Q' i K' a w := by
 unfold qOpIn at hh
 unfold wpOpIn
 split
 · rename_i ho; simp only [ho] at hh; exact h _ _ hC hh
 · rename_i o ho
   simp only [ho] at hh
   obtain ⟨ha, hh⟩ := hh
   split
   · rename_i hw; simp only [hw, if_true] at hh; exact wpIn_of_quietR (noDefer_at hnd ho) hC h ha hh
   · rename_i hw; simp only [hw] at hh; exact ⟨ha w hC, h _ _ hC hh⟩
theorem wpAnyIn_of_quietR {Q : Act → Prop} {Q' : Exit → Act → World → Prop} (hnd : noDefer ops = true) (hQ : ∀ a w, C w → Q a → Q' .normal a w) : ∀ (fuel : Nat) (listed : Array Bool) (a : Act) (w : World), C w →
 wpAnyQIn F n P md ops C Q fuel listed a → wpAnyIn F n P md ops Q' fuel listed a w
 | 0, _, _, _, hw, h => ⟨h.1, hQ _ _ hw h.2⟩
 | fuel + 1, _, _, _, hw, h => ⟨fun h0 => hQ _ _ hw (h.1 h0), fun i hi => wpOpIn_of_qOpInR hnd hw (fun a' w' hw' => wpAnyIn_of_quietR hnd hQ fuel _ a' w' hw') (h.2 i hi)⟩
theorem wpIn_region_quietR {id : Nat} {Q : Exit → Act → World → Prop} {a : Act} {w : World} (hnd : noDefer ops = true) (hm : P.follows .mixedOrders = true) (hB : Region.lexB .any ops = true) (hC : C { w with drawn := w.drawn + 1 })
 (h : wpQuietIn F n P ops C (fun a' => ∀ w', C w' → Q .normal a' w') ops.toList a) : (Code.region id ops true).wpIn F n P Q a w := by
 simp only [Region.lexB, Bool.and_eq_true] at hB
 refine wpIn_region_any hm (wpAnyIn_of_quietR (Q := fun a' => ∀ w', C w' → Q .normal a' w') hnd (fun _ w' hw' h => h w' hw') _ _ _ _ hC ?_)
 have := wpAnyQIn_lex (F := F) (n := n) (C := C) (md := .any) hB.1 ops.toList 0 (Array.replicate ops.size false) a (by simp) (by simpa using hB.2) h
 simpa using this
theorem wpIn_region_keeps {id : Nat} {Q : Exit → Act → World → Prop} {a : Act} {w : World} {l : List Oper} (I : World → Prop) (hnd : noDefer l.toArray = true) (hm : P.follows .mixedOrders = true) (hB : Region.lexB .any l.toArray = true)
 (hI : I w.drew)
 (h : Nonempty (Keeps I) → wpQuietIn F n P l.toArray (fun w' => ∃ x : Keeps I, w' = x.to) (fun a' => ∀ w', (∃ x : Keeps I, w' = x.to) → Q .normal a' w') l a) : (Code.region id l.toArray true).wpIn F n P Q a w :=
 wpIn_region_quietR (C := fun w' => ∃ x : Keeps I, w' = x.to) hnd hm hB ⟨⟨_, hI⟩, rfl⟩ (by simpa using h ⟨⟨_, hI⟩⟩)
theorem CallsIn.keeps_below {f : FuncId} {args : Array Value} {w : World} {v : Value} {x : Keeps (Below w.heap.size w)}
 (h : CallsIn F n P f args x.to fun e w' => e = .returned v ∧ Below x.to.heap.size x.to w') : CallsIn F n P f args x.to fun e w'' => e = .returned v ∧ ∃ y : Keeps (Below w.heap.size w), w'' = y.to :=
 h.mono fun _ _ ⟨he, hb⟩ => ⟨he, ⟨_, x.ok.trans (hb.mono x.ok.size)⟩, rfl⟩
theorem CallsIn.keeps_same {f : FuncId} {args : Array Value} {I : World → Prop} {v : Value} {x : Keeps I}
 (h : CallsIn F n P f args x.to fun e w' => e = .returned v ∧ x.to = w') : CallsIn F n P f args x.to fun e w'' => e = .returned v ∧ ∃ y : Keeps I, w'' = y.to :=
 h.mono fun _ _ ⟨he, hb⟩ => ⟨he, x, hb.symm⟩
end
end Go.Proofs.YtcibkdbpicledaaGreatDoor
namespace Go.Proofs.YtcibkdbpicledaaGreatDoor
open Go.RowKit Go.BigFrame Go.Maps Go.WideMaps Lf
open Go.Shelf
def Cx (W : World) (B i : Nat) (v : Value) : Prop := W.cell? ⟨B, i, none⟩ = some v ∧ W.frozen? ⟨B, i, none⟩ = false
theorem Cx.kept {W W' : World} {row : Option Nat} {B i : Nat} {v : Value} (h : Cx W B i v) (hg : W.grownBy W' row) (hr : ∀ r, row = some r → ∃ o : Obj, W.heap[r]? = some o ∧ o.isCells = false) : Cx W' B i v :=
 ⟨cell_kept h.1 hg hr, (frozen_kept h.1 hg hr).trans h.2⟩
theorem Cx.alloc {W : World} {B i : Nat} {v : Value} (h : Cx W B i v) (o : Obj) : Cx (W.alloc o) B i v := h.kept (World.grownBy_alloc W o none) (fun r e => by cases e)
theorem Cx.set {W : World} {B i : Nat} {v : Value} (h : Cx W B i v) (u : Value) : Cx (W.setCell ⟨B, i, none⟩ u) B i u :=
 ⟨World.cell?_setCell_same' _ _ _ (by rw [h.1]; rfl), by rw [World.frozen?_setCell]; exact h.2⟩
theorem Cx.other {W : World} {B C i j : Nat} {v : Value} (h : Cx W B i v) (u : Value) (hne : B ≠ C) : Cx (W.setCell ⟨C, j, none⟩ u) B i v := by
 refine ⟨?_, by rw [World.frozen?_setCell]; exact h.2⟩
 have e : (W.setCell ⟨C, j, none⟩ u).cell? ⟨B, i, none⟩ = W.cell? ⟨B, i, none⟩ := World.cell?_of_block (Below.heap_setCell W ⟨C, j, none⟩ u B hne)
 rw [e]
 exact h.1
theorem Cx.put {W : World} {B D i : Nat} {v : Value} {o o' : Obj} (h : Cx W B i v) (hD : W.heap[D]? = some o) (ho : o.isCells = false) : Cx (W.putObj D o') B i v :=
 h.kept (grownBy_putObj' W D o') (fun r e => by cases e; exact ⟨o, hD, ho⟩)
theorem Cx.below {W W' : World} {B n i : Nat} {v : Value} (h : Cx W B i v) (hb : Below n W W') (hB : B < n) : Cx W' B i v :=
 ⟨(hb.cell (p := ⟨B, i, none⟩) hB).trans h.1, (hb.frozen (p := ⟨B, i, none⟩) hB).trans h.2⟩
theorem Cx.lt {W : World} {B i : Nat} {v : Value} (h : Cx W B i v) : B < W.heap.size := by
 have := h.1
 unfold World.cell? at this
 split at this
 · rename_i heq; exact (gl heq)
 · cases this
def Hx (W : World) (B : Nat) (x : Head) : Prop := W.heap[B]? = some (.cells #[.int .i64 x.kind, .int .i64 x.n, .int .u64 x.w] 196 (0, 0))
theorem Hx.new (W : World) (x : Head) : Hx (W.alloc (.cells #[.int .i64 x.kind, .int .i64 x.n, .int .u64 x.w] 196)) W.heap.size x := by
 show (W.heap.push _)[W.heap.size]? = _
 simp
theorem Hx.lt {W : World} {B : Nat} {x : Head} (h : Hx W B x) : B < W.heap.size := (gl h)
theorem Hx.kept {W W' : World} {row : Option Nat} {B : Nat} {x : Head} (h : Hx W B x) (hg : W.grownBy W' row) (hr : ∀ r, row = some r → ∃ o : Obj, W.heap[r]? = some o ∧ o.isCells = false) : Hx W' B x :=
 (hg.block B h.lt (fun e => by
  obtain ⟨o, ho, hc⟩ := hr B e.symm
  rw [show W.heap[B]? = _ from h] at ho
  injection ho with ho
  rw [← ho] at hc
  cases hc)).trans h
theorem Hx.alloc {W : World} {B : Nat} {x : Head} (h : Hx W B x) (o : Obj) : Hx (W.alloc o) B x := h.kept (World.grownBy_alloc W o none) (fun r e => by cases e)
theorem Hx.other {W : World} {B C j : Nat} {x : Head} (h : Hx W B x) (u : Value) (hne : B ≠ C) : Hx (W.setCell ⟨C, j, none⟩ u) B x := (Below.heap_setCell W ⟨C, j, none⟩ u B hne).trans h
theorem Hx.put {W : World} {B D : Nat} {x : Head} {o o' : Obj} (h : Hx W B x) (hD : W.heap[D]? = some o) (ho : o.isCells = false) : Hx (W.putObj D o') B x :=
 h.kept (grownBy_putObj' W D o') (fun r e => by cases e; exact ⟨o, hD, ho⟩)
theorem Hx.below {W W' : World} {B n : Nat} {x : Head} (h : Hx W B x) (hb : Below n W W') (hB : B < n) : Hx W' B x := (hb.block B hB).trans h
theorem Hx.set {W : World} {B : Nat} {x : Head} (h : Hx W B x) (y : Head) : Hx (((W.setCell ⟨B, 0, none⟩ (.int .i64 y.kind)).setCell ⟨B, 1, none⟩ (.int .i64 y.n)).setCell ⟨B, 2, none⟩ (.int .u64 y.w)) B y := by
 have := heap_setCell (v := .int .u64 y.w) (i := 2) (heap_setCell (v := .int .i64 y.n) (i := 1) (heap_setCell (v := .int .i64 y.kind) (i := 0) h))
 exact this
theorem Hx.c0 {W : World} {B : Nat} {x : Head} (h : Hx W B x) : Cx W B 0 (.int .i64 x.kind) := ⟨by rw [cell_of_block h]; rfl, frozen_of_block h⟩
theorem Hx.c1 {W : World} {B : Nat} {x : Head} (h : Hx W B x) : Cx W B 1 (.int .i64 x.n) := ⟨by rw [cell_of_block h]; rfl, frozen_of_block h⟩
theorem Hx.c2 {W : World} {B : Nat} {x : Head} (h : Hx W B x) : Cx W B 2 (.int .u64 x.w) := ⟨by rw [cell_of_block h]; rfl, frozen_of_block h⟩
theorem findIn_cons (addr p : Nat) (x : Head) (r : List (Nat × Head)) : findIn addr ((p, x) :: r) =
 if x.kind = 2 ∧ addr = p * 64 + 2 then some (p, 0, x)
 else if x.kind ≠ 1 ∨ addr / 64 ≠ p then findIn addr r
 else match slotAt addr p x with
  | some k => some (p, k, x)
  | none => findIn addr r := rfl
theorem findIn_snoc (addr : Nat) (x : Nat × Head) : ∀ q : List (Nat × Head), findIn addr q = none → findIn addr (q ++ [x]) = findIn addr [x]
 | [], _ => rfl
 | (p, y) :: q, h => by
  rw [findIn_cons] at h
  rw [List.cons_append, findIn_cons]
  split at h
  · cases h
  · rename_i h1
    rw [if_neg h1]
    split at h
    · rename_i h2
      rw [if_pos h2]
      exact findIn_snoc addr x q h
    · rename_i h2
      rw [if_neg h2]
      split at h
      · cases h
      · exact findIn_snoc addr x q h
theorem findIn_some (addr : Nat) (r : Nat × Nat × Head) : ∀ q t : List (Nat × Head), findIn addr q = some r → findIn addr (q ++ t) = some r
 | (p, y) :: q, t, h => by
  rw [findIn_cons] at h
  rw [List.cons_append, findIn_cons]
  split at h
  · rename_i h1
    rw [if_pos h1]; exact h
  · rename_i h1
    rw [if_neg h1]
    split at h
    · rename_i h2
      rw [if_pos h2]
      exact findIn_some addr r q t h
    · rename_i h2
      rw [if_neg h2]
      split at h
      · exact h
      · exact findIn_some addr r q t h
def findV (r : Option (Nat × Nat × Head)) : Value := match r with | some (p, k, x) => .tuple #[.int .i64 p, .int .i64 k, headV x, .bool true] | none => .tuple #[.int .i64 0, .int .i64 0, headV ⟨0, 0, 0⟩, .bool false]
theorem find_range_none {q : Nat → Bool} {m : Nat} (h : ∀ j, j < m → q j = false) : (List.range m).find? q = none :=
 List.find?_eq_none.2 fun j hj => by rw [h j (List.mem_range.1 hj)]; simp
theorem find_range_some {q : Nat → Bool} {m k : Nat} (hk : k < m) (hq : q k = true) (h : ∀ j, j < k → q j = false) : (List.range m).find? q = some k := by
 rw [List.find?_eq_some_iff_append]
 refine ⟨hq, List.range k, (List.range (m - k - 1)).map (· + (k + 1)), ?_, fun j hj => by rw [h j (List.mem_range.1 hj)]; rfl⟩
 rw [show m = k + ((m - k - 1) + 1) by omega, List.range_add, List.range_succ_eq_map]
 simp
 intro a _
 omega
attribute [local go_sem] Oper.semAt_some
theorem slab_pages_nil {w : World} {pa pm : Nat} {s : Slab} {Y : Nat → Prop} {blk : Nat → Nat} (h : SlabOn w pa pm s Y blk) (hz : s.keys = []) :
 Calls Tryz.prog 132 #[PV pa] w fun e w' => e = .returned (.slice none 0 0) ∧ Below w.heap.size w w' := by
 refine (callsIn_wide (n := 6)).1 ?_
 have hbl := h.map.lt
 have c1 := h.cells.2
 have hno : CallsIn Fence.wide 5 Tryz.prog 142 #[PV pa] w _ := callsIn_wide.2 (slab_none h)
 have hmax : Maps.size (pgD s.keys blk) ≤ maxLen := by
  rw [pgD_size, keys_length]; have := h.wf.room; have := h.wf.quota; unfold maxLen; omega
 have hbytes : Maps.size (pgD s.keys blk) * 8 ≤ 140737488355328 := by
  rw [pgD_size, keys_length]; have := h.wf.room; have := h.wf.quota; omega
 have hseq : SeqGives Fence.wide 2 Tryz.prog 175 #[.pointer (some ⟨w.heap.size, 0, none⟩)] encZ (fun ss => ss.Perm (intKeys (pgD s.keys blk))) (Maps.size (pgD s.keys blk)) (w.alloc (.cells #[.map (some pm)] 169)) :=
  AnyZI.keys_gives (ρ := Tryz.keysA_ren) { Tryz.keysA with } Fence.wide _ trivial rfl (by omega) w.heap.size pm s.pages.length (pgD s.keys blk) _ (by simp) (by simp) (by
   obtain ⟨es, clock, hb, Ft, hs, hD⟩ := h.map
   exact ⟨es, clock, (Below.heap_alloc _ _ pm hbl).trans hb, Ft, hs, hD⟩)
 have cK : ∀ mb W, CallsIn Fence.wide 5 Tryz.prog 154 #[.map mb] W fun e w' => e = .returned (.func (.func 175) #[] #[.pointer (some ⟨W.heap.size, 0, none⟩)]) ∧ w' = W.alloc (.cells #[.map mb] 169) := fun mb W => AnyZI.keys_in Tryz.keysA Fence.wide 5 trivial rfl mb W
 have cS := AnyZI.sorted_in Tryz.sortedA Fence.wide 5 trivial trivial trivial trivial rfl (by omega) (sortsA _) (enters_of Tryz.func174 (by kernel_rfl) rfl) 175 #[.pointer (some ⟨w.heap.size, 0, none⟩)] trivial (enters_of Tryz.func175 (by kernel_rfl) rfl) _ _ hmax hbytes _ hseq
 change CallsIn _ _ Tryz.prog 153 _ _ _ at cS
 have hfK : Fence.wide.fn 154 := trivial
 have hfS : Fence.wide.fn 153 := trivial
 have hfN : Fence.wide.fn 142 := trivial
 have HS := Lib.hid h
 clear h hmax hbytes hseq
 refine callsIn_of_wp Tryz.func132 rfl trivial ?_ rfl
 simp only [Tryz.ntmps132, List.size_toArray, List.length_cons, List.length_nil, Nat.reduceAdd, Nat.reduceSub, Array.replicate_succ, Array.replicate_zero, List.push_toArray, List.append_toArray, List.nil_append, List.cons_append]
 gi_wp2_with (first
  | (gi_at_call 142; refine hno.mono ?_; rintro e w' ⟨rfl, rfl⟩)
  | (gi_at_call 154; refine (cK _ _).mono ?_; rintro e w' ⟨rfl, rfl⟩)
  | (gi_at_call 153; refine cS.mono ?_; rintro e w' ⟨v, ss, rfl, hS, hrow, hnil, hb⟩))
 go_ret
 obtain ⟨hl, _⟩ := sorted_keys HS.out.wf hS
 rw [hz] at hl
 obtain rfl := hnil.2 (List.length_eq_zero_iff.1 hl)
 exact ⟨rfl, ((Below.refl _ w).alloc (Nat.le_refl _) _).trans (hb.mono (by simp))⟩
theorem HeapOn.pages_nil {w : World} {ph pa pm q : Nat} {Y : Nat → Prop} (h : HeapOn w ph pa pm ⟨q, []⟩ Y) :
 Calls Tryz.prog 132 #[PV pa] w fun e w' => e = .returned (.slice none 0 0) ∧ Below w.heap.size w w' := by
 obtain ⟨blk, hs⟩ := h.slab
 exact slab_pages_nil hs rfl
theorem heap_audit_empty {w : World} {ph pa pm q : Nat} {Y : Nat → Prop} (h : HeapOn w ph pa pm ⟨q, []⟩ Y) :
 Calls Tryz.prog 103 #[PV ph] w fun e w' => e = .returned (.int .i64 0) ∧ Below w.heap.size w w' := by
 refine (callsIn_wide (n := 7)).1 ?_
 have h1 : 1 ≤ 7 := by omega
 have hfN : Fence.wide.fn 110 := trivial
 have hfH : Fence.wide.fn 128 := trivial
 have hfP : Fence.wide.fn 132 := trivial
 have hno : ∀ W, HeapOn W ph pa pm ⟨q, []⟩ Y → CallsIn Fence.wide 6 Tryz.prog 110 #[PV ph] W _ := fun W hW => callsIn_wide.2 (heap_none hW)
 have hhd : ∀ W, CallsIn Fence.wide 6 Tryz.prog 128 #[PV ph] W _ := fun W => callsIn_wide.2 (heads_any ph W)
 have HR := Lib.hid h
 clear h
 refine callsIn_of_wp_marks Tryz.func103 rfl trivial ?_ rfl
 simp only [Tryz.ntmps103, List.size_toArray, List.length_cons, List.length_nil, Nat.reduceAdd, Nat.reduceSub, Array.replicate_succ, Array.replicate_zero, List.push_toArray, List.append_toArray, List.nil_append, List.cons_append]
 gi_wp2_with fail
 have c0 := (Bx.new w (PV ph) 126).alloc (.cells #[.int .i64 0] 30)
 have c1 := Bx.new (w.alloc (.cells #[PV ph] 126)) (.int .i64 0) 30
 have hb2 : Below w.heap.size w ((w.alloc (.cells #[PV ph] 126)).alloc (.cells #[.int .i64 0] 30)) := ((Below.refl _ w).alloc (Nat.le_refl _) _).alloc (by simp) _
 simp only [World.size_alloc] at c1
 have hz2 : ((w.alloc (.cells #[PV ph] 126)).alloc (.cells #[.int .i64 0] 30)).heap.size = w.heap.size + 1 + 1 := by simp
 generalize ((w.alloc (.cells #[PV ph] 126)).alloc (.cells #[.int .i64 0] 30)) = w2 at *
 refine (hno w2 (HR.out.below hb2)).mono ?_
 rintro e w3 ⟨rfl, rfl⟩
 have k0 := c0.1
 have H2 := kq4 c0 c1 hb2 hz2
 clear c0 c1 hb2
 gi_wp2_with fail
 refine (hhd _).mono ?_
 rintro e w4 ⟨rfl, rfl⟩
 gi_wp2_with fail
 have k4 : Bx (((w2.alloc (.cells #[.int .i64 0] 3)).alloc (.cells #[PV ph] 126))) (w.heap.size + 1 + 1) (.int .i64 0) := by
  have := (Bx.new w2 (.int .i64 0) 3).alloc (.cells #[PV ph] 126)
  rwa [H2.out.2.2.2] at this
 have k5 : Bx (((w2.alloc (.cells #[.int .i64 0] 3)).alloc (.cells #[PV ph] 126))) (w.heap.size + 1 + 1 + 1) (PV ph) := by
  have := Bx.new (w2.alloc (.cells #[.int .i64 0] 3)) (PV ph) 126
  rwa [World.size_alloc, H2.out.2.2.2] at this
 have c0 := (H2.out.1.alloc (.cells #[.int .i64 0] 3)).alloc (.cells #[PV ph] 126)
 have c1 := (H2.out.2.1.alloc (.cells #[.int .i64 0] 3)).alloc (.cells #[PV ph] 126)
 have hbW : Below w.heap.size w ((w2.alloc (.cells #[.int .i64 0] 3)).alloc (.cells #[PV ph] 126)) := (H2.out.2.2.1.alloc (by omega) _).alloc (by simp; omega) _
 have hszW : ((w2.alloc (.cells #[.int .i64 0] 3)).alloc (.cells #[PV ph] 126)).heap.size = w.heap.size + 1 + 1 + 1 + 1 := by simp [H2.out.2.2.2]
 clear hz2 k0
 generalize ((w2.alloc (.cells #[.int .i64 0] 3)).alloc (.cells #[PV ph] 126)) = W0 at *
 have hW := HR.out.wide hbW
 refine wpIn_rangeFunc_ownH rfl h1 (gf := 151) (lb := #[PV (w.heap.size + 1 + 1 + 1)]) rfl trivial (enters_of Tryz.func151 (by kernel_rfl) rfl)
  (heads_stops hW (Z := fun _ => False) (fun k hk => hk.elim) (w.heap.size + 1 + 1 + 1) k5.1 id) KpZ.trans (fun W l o o' h1 h2 h3 h4 => KpZ.put W l o o' h1 h2 h3 h4) (Below.refl _ _) (fun _ => rfl)
  (fun _ W => (Bx W w.heap.size (PV ph) ∧ Bx W (w.heap.size + 1) (.int .i64 0) ∧ Bx W (w.heap.size + 1 + 1) (.int .i64 0)) ∧ Below w.heap.size w W)
  (fun _ _ _ => False)
  (OwnFrom.and (Own.from (fun s A B row hs hg hr => ⟨hs.1.kept hg hr, hs.2.1.kept hg hr, hs.2.2.kept hg hr⟩) _) (ownFrom_below (Nat.le_refl _) (by omega)))
  (fun cd => Own.from (fun s A B row hs hg hr => hs) _)
  ⟨⟨c0, c1, k4⟩, hbW⟩
  (fun x a' W => True) (fun x a' _ X W' row hs hg hr => trivial)
  ?assign ?body ?done ?stop
 case assign =>
  rintro l pre ⟨⟨p, kd, xn, xw⟩, hx⟩ W K ⟨⟨i0, i1, i2⟩, hB⟩ hK
  have HH := kq4 i0 i1 i2 hB
  have HK := Lib.hid hK
  clear i0 i1 i2 hB hK
  simp only [encH, headV]
  gi_wp2
  have hBl := HH.out.2.2.2
  exact HK.out _ _ ((KeepsOthers.alloc _ _).from _) (KpZ.of_below ((Below.refl _ W).alloc (Nat.le_refl _) _)) ⟨⟨HH.out.1.alloc _, HH.out.2.1.alloc _, HH.out.2.2.1.alloc _⟩, hBl.alloc hBl.size _⟩ trivial
 case body =>
  intro l pre x a' W _ _ _ _ hlt
  exact absurd hlt (Nat.not_lt_zero _)
 case done =>
  rintro D ys W hD _ ⟨⟨i0, i1, i2⟩, hB⟩ hK
  have hH := HR.out.below hB
  have ca := hH.cell
  have k0 := i0.1
  have k2 := i2.1
  obtain ⟨k1, f1⟩ := id i1
  have hpg : ∀ x : Keeps (Below W.heap.size W), CallsIn Fence.wide 6 Tryz.prog 132 #[PV pa] x.to _ := fun x => CallsIn.keeps_below (callsIn_wide.2 (hH.below x.ok).pages_nil)
  have hx0 : ∀ x : Keeps (Below W.heap.size W), x.to.cell? ⟨w.heap.size, 0, none⟩ = some (PV ph) := fun x => (x.ok.cell (p := ⟨w.heap.size, 0, none⟩) (Cx.lt (show Cx W _ 0 _ from i0))).trans k0
  have hx2 : ∀ x : Keeps (Below W.heap.size W), x.to.cell? ⟨w.heap.size + 1 + 1, 0, none⟩ = some (.int .i64 0) := fun x => (x.ok.cell (p := ⟨w.heap.size + 1 + 1, 0, none⟩) (Cx.lt (show Cx W _ 0 _ from i2))).trans k2
  have hxa : ∀ x : Keeps (Below W.heap.size W), x.to.cell? ⟨ph, 0, none⟩ = some (PV pa) := fun x => (x.ok.cell (p := ⟨ph, 0, none⟩) hH.lt).trans ca
  have HH := kq3 hpg hB i1
  clear hB i0 i1 i2 hH
  gi_wp2_with fail
  refine wpIn_region_keeps (Below W.heap.size W) (by kernel_rfl) (by kernel_rfl) (by kernel_rfl) ⟨rfl, rfl, rfl, Nat.le_refl _, fun _ _ => rfl⟩ fun ⟨x0⟩ => ?_
  repeat (first | gi_big_quiet_skip | (gi_big_quiet_want; gi_big_quiet_op; first | go_big_quiet_on | (apply Exists.intro; refine ⟨fun x => ?_, ?_⟩; (· with_reducible exact hpg x); go_big_quiet_on)))
  refine wpQuietIn_nil ?_
  rintro _ ⟨x, rfl⟩
  have j1 := HH.out.2.2.below x.ok (Cx.lt (show Cx W _ 0 _ from HH.out.2.2))
  obtain ⟨k1', f1'⟩ := id j1
  have hK' : x.to.heap[D]? = some (.deferred (some [])) := (x.ok.block D (gl hK)).trans hK
  have HX := kq3 j1 hK' (HH.out.2.1.trans (x.ok.mono HH.out.2.1.size))
  clear j1 hK'
  gi_wp2
  have hK2 := (KeepsOthers.setCell x.to ⟨w.heap.size + 1, 0, none⟩ (.int .i64 0)).same D _ HX.out.2.1 rfl
  refine ⟨by simp, .inl ⟨_, _, rfl, run_takeDeferred hK2, ?_⟩⟩
  have r1 := ((HX.out.1.set (.int .i64 0)).put (o' := .deferred none) hK2 rfl).1
  refine ⟨.int .i64 0, ?_, rfl, (HX.out.2.2.setCell (p := ⟨w.heap.size + 1, 0, none⟩) (by simp) _).trans (belowK_b (w := w) (Nat.le_refl _) _ D _ _ (by omega) hK2 rfl rfl)⟩
  simp [results, Tryz.f103, go_sem, r1]
 case stop =>
  rintro D cd pre W hD hpre hF
  exact hF.elim
theorem heap_new {w : World} {pa pm q : Nat} {Y : Nat → Prop} {blk : Nat → Nat} (hs : SlabOn w pa pm ⟨q, []⟩ Y blk) (ht : Tab64 w) (hyt : Y tabB) :
 Calls Tryz.prog 78 #[PV pa] w fun e w' => e = .returned (.tuple #[PV w.heap.size, .int .i64 0]) ∧ HeapOn w' w.heap.size pa pm ⟨q, []⟩ (And1 Y w.heap.size) ∧ Below w.heap.size w w' := by
 have hrd := slab_read hs 0 (by omega)
 have herr : Slab.err ⟨q, []⟩ 0 = 5 := rfl
 rw [herr] at hrd
 have hH : HeapOn (w.alloc (.cells #[PV pa] 177)) w.heap.size pa pm ⟨q, []⟩ (And1 Y w.heap.size) := by
  have hb := (Below.refl _ w).alloc (Nat.le_refl _) (.cells #[PV pa] 177)
  exact ⟨⟨blk, hs.own _⟩, heap_alloc_new w _, Or.inr rfl, ht.of_block (hb.block _ (hs.yl _ hyt)), Or.inl hyt⟩
 have hau := heap_audit_empty hH
 have HG := kq3 hrd hau hH
 clear hrd hau hH herr hs ht hyt
 go_enter Tryz.func78, Tryz.ntmps78
 go_wp2_with fail
 refine HG.out.1.mono ?_
 rintro e w1 ⟨rfl, rfl⟩
 go_wp2_with fail
 refine HG.out.2.1.mono ?_
 rintro e w1 ⟨rfl, hb⟩
 have HB := Lib.hid hb
 clear hb
 go_wp2_with fail
 go_ret2
 exact ⟨rfl, HG.out.2.2.below HB.out, ((Below.refl _ w).alloc (Nat.le_refl _) _).trans (HB.out.mono (by simp))⟩
end Go.Proofs.YtcibkdbpicledaaGreatDoor
namespace Go.Proofs.YtcibkdbpicledaaGreatDoor
open Go.RowKit Go.BigFrame Go.Maps Go.WideMaps Lf
theorem HeapOn.pages' {w : World} {ph pa pm : Nat} {s : Slab} {Y : Nat → Prop} (h : HeapOn w ph pa pm s Y) :
 Calls Tryz.prog 132 #[PV pa] w fun e w' => ∃ v, e = .returned v ∧ IntRow w' w.heap.size v s.keys ∧ Below w.heap.size w w' := by
 obtain ⟨blk, hs⟩ := h.slab
 exact slab_pages hs
theorem st_words {w : World} {ps : Nat} {S : St} {Y : Nat → Prop} (h : StOn w ps S Y) :
 Calls Tryz.prog 185 #[PV ps] w fun e w' => e = .returned (.int .i64 (S.words : Nat)) ∧ Below w.heap.size w w' := by
 have hno := st_none h
 obtain ⟨pa, pm, ph, pt, v, h⟩ := h
 obtain ⟨_, _, c2, _, _⟩ := h.cells
 have hw := h.heap.wf
 have h1 := hw.room
 have h2 := hw.quota
 have hk := keys_length S.a
 have hpg : Calls Tryz.prog 132 #[PV pa] w fun e w' => (∃ A c, e = .returned (.slice A S.a.pages.length c)) ∧ Below w.heap.size w w' := by
  refine h.heap.pages'.mono ?_
  rintro e w' ⟨v, rfl, ⟨A, c, rfl, _⟩, hb⟩
  exact ⟨⟨A, c, by rw [hk]⟩, hb⟩
 unfold St.words
 generalize S.a.pages.length = m at *
 have HG := kq2 hno hpg
 have hm : m ≤ 262144 := by omega
 clear hno hpg hk h hw h1 h2
 go_enter Tryz.func185, Tryz.ntmps185
 go_wp2_with fail
 refine HG.out.1.mono ?_
 rintro e w1 ⟨rfl, rfl⟩
 go_wp2_with fail
 refine HG.out.2.mono ?_
 rintro e w1 ⟨⟨A, c, rfl⟩, hb⟩
 have HB := Lib.hid hb
 clear hb
 go_wp2_with fail
 go_ret
 exact ⟨by simp, HB.out⟩
theorem SlabOn.empty_more {w : World} {pa pm q : Nat} {Y : Nat → Prop} {blk : Nat → Nat} (h : SlabOn w pa pm ⟨q, []⟩ Y blk) : SlabOn w pa pm ⟨q, []⟩ (fun k => k < w.heap.size ∧ k ≠ pa ∧ k ≠ pm) blk :=
 ⟨h.wf, h.hd, h.map, h.pg, h.inj, fun k => k.2.1 rfl, fun k => k.2.2 rfl, fun p hp => absurd hp (by simp [Slab.keys]), fun _ k => k.1⟩
theorem store_new {w : World} (ht : Tab64 w) (q n l : Nat) (hq : q ≤ 262144) (hn : 1 ≤ n ∧ n ≤ 65536) (hl : 1 ≤ l ∧ l < 4294967296) :
 Calls Tryz.prog 47 #[.int .i64 q, .int .i64 n, .int .u32 l] w fun e w' => ∃ ps, e = .returned (.tuple #[PV ps, .int .i64 0]) ∧ StOn w' ps ⟨⟨q, []⟩, ⟨n, l, []⟩⟩ (fun k => k < w.heap.size) ∧ Below w.heap.size w w' := by
 have htb : tabB < w.heap.size := ht.lt
 have h1 := slab_new q w (fun k => k < w.heap.size) (fun _ k => k) hq
 have HG := kq2 h1 ht
 clear h1 ht
 go_enter Tryz.func47, Tryz.ntmps47
 go_wp2_with fail
 refine HG.out.1.mono ?_
 rintro e w1 ⟨rfl, hs, hk⟩
 have hpl := hs.map.lt
 have hal := (gl hs.hd)
 have H1 := kq4 hs hk.below hpl hal
 clear hs hk hpl hal
 go_wp2_with fail
 refine (tab_new n l w1 hn hl).mono ?_
 rintro e w2 ⟨rfl, htab, hb2⟩
 have hs2 := (H1.out.1.below hb2).empty_more
 have hbl := H1.out.2.1.trans (hb2.mono H1.out.2.1.size)
 have hsz := H1.out.2.1.size
 have hsz2 := hb2.size
 have htl := htab.pt_lt
 have H2 := kq6 hs2 htab hbl hsz hsz2 htl
 clear hs2 htab hb2 hbl hsz hsz2 htl
 go_wp2_with fail
 have hT2 : Tab64 w2 := HG.out.2.below H2.out.2.2.1 (Nat.le_refl _)
 have hz : tabB < w2.heap.size ∧ tabB ≠ w.heap.size + 1 ∧ tabB ≠ w.heap.size := ⟨by have := H2.out.2.2.1.size; omega, by omega, by omega⟩
 refine (heap_new H2.out.1 hT2 hz).mono ?_
 rintro e w3 ⟨rfl, hH, hb3⟩
 have H3 := kq2 hH hb3
 clear hH hb3 hT2 hz
 go_wp2_with fail
 go_ret2
 have hb3 := H3.out.2
 obtain ⟨hs2, htab, hbl, hsz, hsz2, htl⟩ := H2.out
 obtain ⟨_, _, hpl, hal⟩ := H1.out
 have hs3 := hb3.size
 have hH := H3.out.1.own (.cells #[.int .i64 n, .int .u32 l, PV (w.heap.size + 1), PV w2.heap.size, PV w1.heap.size] 130 (0, 0))
 have hb4 : Below w3.heap.size w3 (w3.alloc (.cells #[.int .i64 n, .int .u32 l, PV (w.heap.size + 1), PV w2.heap.size, PV w1.heap.size] 130 (0, 0))) := (Below.refl _ w3).alloc (Nat.le_refl _) _
 have hw2 := hbl.size
 have hb34 := hbl.trans ((hb3.trans (hb4.mono hs3)).mono hw2)
 have hlt3 := H3.out.1.lt
 refine ⟨w3.heap.size, rfl, ⟨w.heap.size + 1, w.heap.size, w2.heap.size, w1.heap.size, .slice none 0 0, heap_alloc_new w3 _, ?_, ?_, ?_⟩, hb34⟩
 · refine hH.mono ?_ (Or.inr (Or.inr (Or.inl rfl))) (Or.inr (Or.inr (Or.inr (Or.inl rfl))))
   rintro k (hk | hk | hk | hk | hk | hk)
   · exact Or.inl (Or.inl ⟨by omega, by omega, by omega⟩)
   · exact Or.inr hk
   · exact Or.inl (Or.inr hk)
   · subst hk
     exact Or.inl (Or.inl ⟨by omega, by omega, by omega⟩)
   · subst hk
     exact Or.inl (Or.inl ⟨by omega, by omega, by omega⟩)
   · cases hk
 · exact htab.of_keep (by rw [hb4.block _ (by omega), hb3.block _ htl]) fun b hb => by cases hb
 · rintro k (hk | hk | hk | hk)
   · exact ⟨by omega, by simp [Value.ownBlock]⟩
   · subst hk
     exact ⟨by omega, by simp [Value.ownBlock]⟩
   · subst hk
     exact ⟨by omega, by simp [Value.ownBlock]⟩
   · subst hk
     exact ⟨by omega, by simp [Value.ownBlock]⟩
