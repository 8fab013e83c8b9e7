/- What texts, blobs, nodes and binary trees compute: plain Lean, no program in sight. The store in memory; what stands of it when blocks are kept: plain. The store: none, at, Len, place, Get, Put: the walks. A region that draws its order, inside a fence and inside a round (the body of a range over a function), whose calls may make memory: one walk in the text's order, at a class of worlds that keep an invariant. (The library's theorem asks that it stand in no round: its proof, turned: a round changes defer statements alone.) The heap: which slot an address is the head of: the plain part. -/
import Derived.Test.YtepdkbmnkjfcpaaGreatDoorVaa
import Derived.Test.YtepdkbmnkjfcpaaGreatDoorVaf
import Derived.Test.YtepdkbmnkjfcpaaGreatDoorVag
import Derived.OwnWalk
import Derived.Sort.BigQuietIn
import Derived.Test.YtepdkbmnkjfcpaaGreatDoorVad
import Derived.StillTail
import Derived.BigQuiet
import Derived.Lib.ItoaWalk
set_option maxRecDepth 100000
set_option maxHeartbeats 800000
namespace Go.Proofs.YtepdkbmnkjfcpaaGreatDoor.Lf
def many (n : Nat) : Nat := if 1000 < n then 0 else 1 + (n + 7) / 8
def chunk (l : List UInt8) : Nat := (List.range 8).foldl (fun n j => n * 256 + (l.getD j 0).toNat) 0
def chunks (l : List UInt8) (m : Nat) : List Nat := (List.range m).map fun i => chunk (l.drop (8 * i))
def wordsOf (l : List UInt8) : List Nat := l.length :: chunks l ((l.length + 7) / 8)
def bytesOf (ws : List Nat) (n : Nat) : List UInt8 := (List.range n).map fun i => UInt8.ofNat (ws.getD (1 + i / 8) 0 / 256 ^ (7 - i % 8))
def textOf (ws : List Nat) : Option (List UInt8) :=
  match ws with
  | [] => none
  | n :: _ => if 1000 < n ∨ many n ≠ ws.length then none else if wordsOf (bytesOf ws n) = ws then some (bytesOf ws n) else none
def cmpB : List UInt8 → List UInt8 → Int
  | [], [] => 0
  | [], _ :: _ => -1
  | _ :: _, [] => 1
  | a :: l, b :: m => if a < b then -1 else if b < a then 1 else cmpB l m
def putWords (s : St) (h : Nat) : Nat → List Nat → St
  | _, [] => s
  | k, w :: r => putWords (s.put h k w).2 h (k + 1) r
def putBlob (s : St) (t : List UInt8) : (Nat × Nat) × St :=
  if 1000 < t.length then ((0, 4), s)
  else match s.make (many t.length) with
    | ((h, 0), s1) => ((h, 0), putWords s1 h 0 (wordsOf t))
    | ((_, e), s1) => ((0, e), s1)
def recWords (s : St) (h : Nat) : List Nat := (List.range (s.len h).1).map fun k => (s.get h k).1
def getBlob (s : St) (h : Nat) : List UInt8 × Nat :=
  match s.len h with
  | (_, 0) => match textOf (recWords s h) with
    | some t => (t, 0)
    | none => ([], 8)
  | (_, e) => ([], e)
structure Nd where
  key : Nat
  val : Nat
  left : Nat
  right : Nat
  mark : Nat
  size : Nat
deriving DecidableEq
def Nd.zero : Nd := ⟨0, 0, 0, 0, 0, 0⟩
def askedN (s : St) (h : Nat) : Nat :=
  match s.len h with
  | (n, 0) => if n ≠ 6 then 8 else 0
  | (_, e) => e
def getNode (s : St) (h : Nat) : Nd × Nat :=
  match askedN s h with
  | 0 => (⟨(s.get h 0).1, (s.get h 1).1, (s.get h 2).1, (s.get h 3).1, (s.get h 4).1, (s.get h 5).1⟩, 0)
  | e => (Nd.zero, e)
def limit (s : St) : Nat := s.words / 8 + 1
def sizeT (s : St) (h : Nat) : Nat := (getNode s h).1.size
def markT (s : St) (h : Nat) : Nat := (getNode s h).1.mark
end Go.Proofs.YtepdkbmnkjfcpaaGreatDoor.Lf
namespace Go.Proofs.YtepdkbmnkjfcpaaGreatDoor
open Go.RowKit Go.BigFrame Go.Maps Go.WideMaps Lf
theorem TabOn.of_keep {w w' : World} {pt : Nat} {t : Tab} {v : Value} (h : TabOn w pt t v) (hp : w'.heap[pt]? = w.heap[pt]?) (hv : ∀ b, v.ownBlock = some b → w'.heap[b]? = w.heap[b]?) : TabOn w' pt t v where
  wf := h.wf
  hd := hp.trans h.hd
  row := by
    refine ⟨h.row.1, ?_⟩
    rcases h.row.2 with hn | ⟨g, cap, cur, rfl, hb, hg, rest⟩
    · exact Or.inl hn
    · exact Or.inr ⟨g, cap, cur, rfl, hb, (hv g rfl).trans hg, rest⟩
theorem TabOn.own_lt {w : World} {pt : Nat} {t : Tab} {v : Value} (h : TabOn w pt t v) {b : Nat} (hb : v.ownBlock = some b) : b < w.heap.size := by
  rcases h.row.2 with ⟨rfl, _⟩ | ⟨g, cap, cur, rfl, _, hg, _⟩
  · cases hb
  · injection hb with hb
    have hb : g = b := hb
    subst hb
    exact (Array.getElem?_eq_some_iff.1 hg).1
def YS (Y : Nat → Prop) (ps ph pt : Nat) (v : Value) : Nat → Prop := fun k => Y k ∨ k = ps ∨ k = ph ∨ k = tabB ∨ k = pt ∨ v.ownBlock = some k
structure StIn (w : World) (ps pa pm ph pt : Nat) (v : Value) (S : St) (Y : Nat → Prop) : Prop where
  hd : w.heap[ps]? = some (.cells #[.int .i64 S.t.most, .int .u32 S.t.last, PV pa, PV ph, PV pt] 99 (0, 0))
  heap : HeapOn w ph pa pm S.a (YS Y ps ph pt v)
  tab : TabOn w pt S.t v
  off : ∀ k, (Y k ∨ k = ps ∨ k = ph ∨ k = tabB) → k ≠ pt ∧ v.ownBlock ≠ some k
def StOn (w : World) (ps : Nat) (S : St) (Y : Nat → Prop) : Prop := ∃ pa pm ph pt v, StIn w ps pa pm ph pt v S Y
theorem StIn.cells {w : World} {ps pa pm ph pt : Nat} {v : Value} {S : St} {Y : Nat → Prop} (h : StIn w ps pa pm ph pt v S Y) :
    w.cell? ⟨ps, 0, none⟩ = some (.int .i64 S.t.most) ∧ w.cell? ⟨ps, 1, none⟩ = some (.int .u32 S.t.last) ∧ w.cell? ⟨ps, 2, none⟩ = some (PV pa) ∧ w.cell? ⟨ps, 3, none⟩ = some (PV ph) ∧ w.cell? ⟨ps, 4, none⟩ = some (PV pt) := by
  refine ⟨?_, ?_, ?_, ?_, ?_⟩ <;> · rw [cell_of_block h.hd]; rfl
theorem StIn.below {w w' : World} {ps pa pm ph pt : Nat} {v : Value} {S : St} {Y : Nat → Prop} (h : StIn w ps pa pm ph pt v S Y) (hb : Below w.heap.size w w') : StIn w' ps pa pm ph pt v S Y where
  hd := by rw [hb.block ps (Array.getElem?_eq_some_iff.1 h.hd).1]; exact h.hd
  heap := h.heap.below hb
  tab := h.tab.of_keep (hb.block _ h.tab.pt_lt) fun b e => hb.block _ (h.tab.own_lt e)
  off := h.off
theorem StOn.below {w w' : World} {ps : Nat} {S : St} {Y : Nat → Prop} (h : StOn w ps S Y) (hb : Below w.heap.size w w') : StOn w' ps S Y := by
  obtain ⟨pa, pm, ph, pt, v, h⟩ := h
  exact ⟨pa, pm, ph, pt, v, h.below hb⟩
theorem StIn.yl {w : World} {ps pa pm ph pt : Nat} {v : Value} {S : St} {Y : Nat → Prop} (h : StIn w ps pa pm ph pt v S Y) : ∀ k, Y k → k < w.heap.size := fun k hk => h.heap.yl k (Or.inl hk)
theorem StOn.yl {w : World} {ps : Nat} {S : St} {Y : Nat → Prop} (h : StOn w ps S Y) : ∀ k, Y k → k < w.heap.size := by
  obtain ⟨pa, pm, ph, pt, v, h⟩ := h
  exact h.yl
theorem StOn.lt {w : World} {ps : Nat} {S : St} {Y : Nat → Prop} (h : StOn w ps S Y) : ps < w.heap.size := by
  obtain ⟨pa, pm, ph, pt, v, h⟩ := h
  exact (Array.getElem?_eq_some_iff.1 h.hd).1
theorem StOn.keep {w w' : World} {ps : Nat} {S : St} {Y : Nat → Prop} (h : StOn w ps S Y) (hb : Below w.heap.size w w') : Keep Y w w' := Keep.of_below hb h.yl
theorem StOn.drewN {w : World} {ps : Nat} {S : St} {Y : Nat → Prop} (h : StOn w ps S Y) (n : Nat) : StOn (w.drewN n) ps S Y := h.below ⟨rfl, rfl, rfl, Nat.le_refl _, fun _ _ => rfl⟩
theorem StOn.alloc {w : World} {ps : Nat} {S : St} {Y : Nat → Prop} (h : StOn w ps S Y) (o : Obj) : StOn (w.alloc o) ps S Y := h.below ((Below.refl _ w).alloc (Nat.le_refl _) o)
theorem StOn.mono {w : World} {ps : Nat} {S : St} {Y Z : Nat → Prop} (h : StOn w ps S Y) (hz : ∀ k, Z k → Y k) : StOn w ps S Z := by
  obtain ⟨pa, pm, ph, pt, v, h⟩ := h
  refine ⟨pa, pm, ph, pt, v, h.hd, h.heap.mono (fun k hk => hk.imp (hz k) id) (Or.inr (Or.inr (Or.inl rfl))) (Or.inr (Or.inr (Or.inr (Or.inl rfl)))), h.tab, fun k hk => h.off k (hk.imp (hz k) id)⟩
theorem StOn.wide {w w' : World} {ps : Nat} {S : St} {Y : Nat → Prop} (h : StOn w ps S Y) (hb : Below w.heap.size w w') : StOn w' ps S (fun k => Y k ∨ (w.heap.size ≤ k ∧ k < w'.heap.size)) := by
  obtain ⟨pa, pm, ph, pt, v, h⟩ := h
  have h' := h.below hb
  refine ⟨pa, pm, ph, pt, v, h'.hd, ?_, h'.tab, ?_⟩
  · refine (h.heap.wide hb).mono ?_ (Or.inr (Or.inr (Or.inl rfl))) (Or.inr (Or.inr (Or.inr (Or.inl rfl))))
    rintro k ((hk | hk) | hk)
    · exact Or.inl (Or.inl hk)
    · exact Or.inr hk
    · exact Or.inl (Or.inr hk)
  · rintro k ((hk | hk) | hk)
    · exact h.off k (Or.inl hk)
    · have h1 := h.tab.pt_lt
      refine ⟨by omega, fun e => ?_⟩
      have := h.tab.own_lt e
      omega
    · exact h.off k (Or.inr hk)
theorem StIn.arena {w w' : World} {ps pa pm ph pt : Nat} {v : Value} {S : St} {Y : Nat → Prop} (h : StIn w ps pa pm ph pt v S Y) {a : Slab} (ha : HeapOn w' ph pa pm a (YS Y ps ph pt v)) (hk : Keep (YS Y ps ph pt v) w w') : StIn w' ps pa pm ph pt v ⟨a, S.t⟩ Y where
  hd := (hk.block ps (Or.inr (Or.inl rfl))).trans h.hd
  heap := ha
  tab := h.tab.of_keep (hk.block pt (Or.inr (Or.inr (Or.inr (Or.inr (Or.inl rfl)))))) fun b e => hk.block b (Or.inr (Or.inr (Or.inr (Or.inr (Or.inr e)))))
  off := h.off
theorem YS.self {Y : Nat → Prop} {ps ph pt : Nat} {v : Value} {k : Nat} (h : Y k) : YS Y ps ph pt v k := Or.inl h
theorem StIn.table {w w' : World} {ps pa pm ph pt : Nat} {v v' : Value} {S : St} {Y : Nat → Prop} (h : StIn w ps pa pm ph pt v S Y) {t : Tab} (ht : TabOn w' pt t v') (hm : t.most = S.t.most ∧ t.last = S.t.last)
    (Z : Nat → Prop) (hZ : ∀ k, k < w.heap.size → k ≠ pt → v.ownBlock ≠ some k → Z k) (hk : Keep Z w w') (hv' : ∀ b, Z b → v'.ownBlock ≠ some b) : StIn w' ps pa pm ph pt v' ⟨S.a, t⟩ Y := by
  have hlt : ∀ k, (Y k ∨ k = ps ∨ k = ph ∨ k = tabB) → k < w.heap.size := fun k hk => h.heap.yl k (by
    rcases hk with hk | hk | hk | hk
    · exact Or.inl hk
    · exact Or.inr (Or.inl hk)
    · exact Or.inr (Or.inr (Or.inl hk))
    · exact Or.inr (Or.inr (Or.inr (Or.inl hk))))
  have hZo : ∀ k, (Y k ∨ k = ps ∨ k = ph ∨ k = tabB) → Z k := fun k hk => hZ k (hlt k hk) (h.off k hk).1 (h.off k hk).2
  obtain ⟨blk, hs⟩ := h.heap.slab
  have hzs : ∀ k, k < w.heap.size → (k = pa ∨ k = pm ∨ ∃ p ∈ S.a.keys, k = blk p) → Z k := fun k hkl hk => by
    have hny : ¬ YS Y ps ph pt v k := by
      rcases hk with rfl | rfl | ⟨p, hp, rfl⟩
      · exact hs.ya
      · exact hs.ym
      · exact hs.yp p hp
    exact hZ k hkl (fun e => hny (Or.inr (Or.inr (Or.inr (Or.inr (Or.inl e)))))) (fun e => hny (Or.inr (Or.inr (Or.inr (Or.inr (Or.inr e))))))
  have hs' : SlabOn w' pa pm S.a (YS Y ps ph pt v) blk := hs.of_keep hk.size fun k hkl hkk => hk.block k (hzs k hkl hkk)
  have hsv : SlabOn w' pa pm S.a (YS Y ps ph pt v') blk := by
    have key : ∀ k, k < w.heap.size → (k = pa ∨ k = pm ∨ ∃ p ∈ S.a.keys, k = blk p) → ¬ YS Y ps ph pt v k → ¬ YS Y ps ph pt v' k := fun k hkl hkk hn hy => by
      rcases hy with hy | hy | hy | hy | hy | hy
      · exact hn (Or.inl hy)
      · exact hn (Or.inr (Or.inl hy))
      · exact hn (Or.inr (Or.inr (Or.inl hy)))
      · exact hn (Or.inr (Or.inr (Or.inr (Or.inl hy))))
      · exact hn (Or.inr (Or.inr (Or.inr (Or.inr (Or.inl hy)))))
      · exact hv' k (hzs k hkl hkk) hy
    refine ⟨hs'.wf, hs'.hd, hs'.map, hs'.pg, hs'.inj, ?_, ?_, ?_, ?_⟩
    · exact key pa (Array.getElem?_eq_some_iff.1 hs.hd).1 (Or.inl rfl) hs.ya
    · exact key pm hs.map.lt (Or.inr (Or.inl rfl)) hs.ym
    · intro p hp
      obtain ⟨l, hl⟩ := keys_mem.1 hp
      exact key _ (Array.getElem?_eq_some_iff.1 (hs.pg _ hl)).1 (Or.inr (Or.inr ⟨p, hp, rfl⟩)) (hs.yp p hp)
    · intro k hkk
      rcases hkk with hy | hy | hy | hy | hy | hy
      · exact hs'.yl k (Or.inl hy)
      · exact hs'.yl k (Or.inr (Or.inl hy))
      · exact hs'.yl k (Or.inr (Or.inr (Or.inl hy)))
      · exact hs'.yl k (Or.inr (Or.inr (Or.inr (Or.inl hy))))
      · exact hs'.yl k (Or.inr (Or.inr (Or.inr (Or.inr (Or.inl hy)))))
      · exact ht.own_lt hy
  have hph := hZo ph (Or.inr (Or.inr (Or.inl rfl)))
  have htb := hZo tabB (Or.inr (Or.inr (Or.inr rfl)))
  have hps := hZo ps (Or.inr (Or.inl rfl))
  refine ⟨?_, ⟨⟨blk, hsv⟩, (hk.block ph hph).trans h.heap.hp, Or.inr (Or.inr (Or.inl rfl)), h.heap.tab.of_block (hk.block _ htb), Or.inr (Or.inr (Or.inr (Or.inl rfl)))⟩, ht, fun k hkk => ⟨(h.off k hkk).1, hv' k (hZo k hkk)⟩⟩
  rw [hk.block ps hps, h.hd, hm.1, hm.2]
structure Inv (S : St) : Prop where
  len : ∀ (i : Nat) (h : i < S.t.slots.length), S.t.slots[i].is = 1 → S.a.rd (S.t.slots[i].addr + 1) ≤ 3998 ∧ S.t.slots[i].addr ≤ 1152921504606846976
  apart : ∀ (i j : Nat) (hi : i < S.t.slots.length) (hj : j < S.t.slots.length), i ≠ j → S.t.slots[i].is = 1 → S.t.slots[j].is = 1 →
    S.t.slots[i].addr + 2 + S.a.rd (S.t.slots[i].addr + 1) ≤ S.t.slots[j].addr ∨ S.t.slots[j].addr + 2 + S.a.rd (S.t.slots[j].addr + 1) ≤ S.t.slots[i].addr
theorem Lf.St.at_some {S : St} {h k : Nat} (hk : S.t.of h = some k) (hlt : k < S.t.slots.length) : S.at h = (S.t.slots[k].addr, S.a.rd (S.t.slots[k].addr + 1), 0) := by
  unfold St.at
  rw [tab_at_eq hk hlt]
  rfl
theorem Lf.St.at_none {S : St} {h : Nat} (hk : S.t.of h = none) : S.at h = (0, 0, 7) := by
  unfold St.at Tab.at
  rw [hk]
  rfl
theorem Inv.at_le {S : St} (hi : Inv S) (h : Nat) : (S.at h).2.1 ≤ 3998 := by
  cases hk : S.t.of h with
  | none => rw [St.at_none hk]; simp
  | some k =>
    obtain ⟨hlt, h1, _⟩ := Tab.of_lt hk
    rw [St.at_some hk hlt]
    exact (hi.len k hlt h1).1
theorem Inv.addr_le {S : St} (hi : Inv S) (h : Nat) : (S.at h).1 ≤ 1152921504606846976 := by
  cases hk : S.t.of h with
  | none => rw [St.at_none hk]; simp
  | some k =>
    obtain ⟨hlt, h1, _⟩ := Tab.of_lt hk
    rw [St.at_some hk hlt]
    exact (hi.len k hlt h1).2
theorem Lf.St.at_cases (S : St) (h : Nat) : (∃ addr n, S.at h = (addr, n, 0) ∧ S.t.at h = (addr, 0) ∧ S.a.rd (addr + 1) = n) ∨ (S.at h = (0, 0, 7) ∧ S.t.at h = (0, 7)) := by
  cases hk : S.t.of h with
  | none => exact Or.inr ⟨St.at_none hk, by unfold Tab.at; rw [hk]⟩
  | some k =>
    obtain ⟨hlt, _⟩ := Tab.of_lt hk
    exact Or.inl ⟨_, _, St.at_some hk hlt, tab_at_eq hk hlt, rfl⟩
def Lf.St.place (s : St) (h k : Nat) : Nat × Nat :=
  match s.at h with
  | (addr, n, 0) => if k < n then (addr + 2 + k, 0) else (0, 2)
  | (_, _, e) => (0, e)
theorem Lf.St.get_place (S : St) (h k : Nat) : S.get h k = match S.place h k with | (p, 0) => (S.a.rd p, S.a.err p) | (_, e) => (0, e) := by
  unfold St.get St.place
  rcases S.at_cases h with ⟨a, n, h1, _⟩ | ⟨h1, _⟩
  · rw [h1]; simp only; split <;> rfl
  · rw [h1]; rfl
theorem Lf.St.put_place (S : St) (h k w : Nat) : S.put h k w = match S.place h k with | (p, 0) => (S.a.err p, { S with a := S.a.wr p w }) | (_, e) => (e, S) := by
  unfold St.put St.place
  rcases S.at_cases h with ⟨a, n, h1, _⟩ | ⟨h1, _⟩
  · rw [h1]; simp only; split <;> rfl
  · rw [h1]; rfl
theorem Inv.place_le {S : St} (hi : Inv S) (h k : Nat) : (S.place h k).1 ≤ 2305843009213693952 := by
  have h2 := hi.addr_le h
  have h3 := hi.at_le h
  unfold St.place
  rcases S.at_cases h with ⟨a, n, h1, _⟩ | ⟨h1, _⟩
  · rw [h1] at h2 h3 ⊢; simp only at h2 h3 ⊢; split <;> simp; omega
  · rw [h1]; simp
theorem Lf.St.place_cases (S : St) (h k : Nat) : (∃ p, S.place h k = (p, 0)) ∨ (∃ e, S.place h k = (0, e + 1)) := by
  unfold St.place
  rcases S.at_cases h with ⟨a, n, h1, _⟩ | ⟨h1, _⟩
  · rw [h1]; simp only; split
    · exact Or.inl ⟨_, rfl⟩
    · exact Or.inr ⟨1, rfl⟩
  · rw [h1]; exact Or.inr ⟨6, rfl⟩
end Go.Proofs.YtepdkbmnkjfcpaaGreatDoor
namespace Go.Proofs.YtepdkbmnkjfcpaaGreatDoor
open Go.RowKit Go.BigFrame Go.Maps Go.WideMaps Lf
theorem st_none {w : World} {ps : Nat} {S : St} {Y : Nat → Prop} (h : StOn w ps S Y) :
    Calls Tryz.prog 124 #[PV ps] w fun e w' => e = .returned (.bool false) ∧ w = w' := by
  obtain ⟨pa, pm, ph, pt, v, h⟩ := h
  obtain ⟨_, _, c2, _, _⟩ := h.cells
  clear h
  go_enter Tryz.func124, Tryz.ntmps124
  go_wp2
  go_ret
  exact ⟨rfl, rfl⟩
theorem st_at {w : World} {ps : Nat} {S : St} {Y : Nat → Prop} (h : StOn w ps S Y) (hi : Inv S) (hh : Nat) (hl : hh < 18446744073709551616) :
    Calls Tryz.prog 117 #[PV ps, .int .u64 hh] w fun e w' => e = .returned (.tuple #[.int .i64 ((S.at hh).1 : Nat), .int .i64 ((S.at hh).2.1 : Nat), .int .i64 ((S.at hh).2.2 : Nat)]) ∧ w = w' := by
  have hno := st_none h
  have h3 := hi.at_le hh
  have h4 := hi.addr_le hh
  obtain ⟨pa, pm, ph, pt, v, h⟩ := h
  obtain ⟨_, _, c2, _, c4⟩ := h.cells
  have hta := tab_at h.tab hh hl
  rcases S.at_cases hh with ⟨a, n, h1, h2, hn⟩ | ⟨h1, h2⟩
  · rw [h1] at h3 h4 ⊢
    rw [h2] at hta
    simp only at h3 h4 hta ⊢
    have hrd := h.heap.read (a + 1) (by omega)
    rw [hn] at hrd
    have HG := Lib.hid (And.intro hno (And.intro hta hrd))
    clear hno hta h h1 h2 hn hrd
    go_enter Tryz.func117, Tryz.ntmps117
    go_wp2_with fail
    refine HG.out.1.mono ?_
    rintro e w1 ⟨rfl, rfl⟩
    go_wp2_with fail
    refine HG.out.2.1.mono ?_
    rintro e w1 ⟨rfl, rfl⟩
    go_wp2_with fail
    refine HG.out.2.2.mono ?_
    rintro e w1 ⟨rfl, rfl⟩
    go_wp2_with fail
    go_ret3
    exact ⟨rfl, rfl⟩
  · rw [h1]
    rw [h2] at hta
    simp only at hta ⊢
    have HG := Lib.hid (And.intro hno hta)
    clear hno hta h h1 h2
    go_enter Tryz.func117, Tryz.ntmps117
    go_wp2_with fail
    refine HG.out.1.mono ?_
    rintro e w1 ⟨rfl, rfl⟩
    go_wp2_with fail
    refine HG.out.2.mono ?_
    rintro e w1 ⟨rfl, rfl⟩
    go_wp2_with fail
    go_ret3
    exact ⟨rfl, rfl⟩
theorem st_len {w : World} {ps : Nat} {S : St} {Y : Nat → Prop} (h : StOn w ps S Y) (hi : Inv S) (hh : Nat) (hl : hh < 18446744073709551616) :
    Calls Tryz.prog 85 #[PV ps, .int .u64 hh] w fun e w' => e = .returned (.tuple #[.int .i64 ((S.len hh).1 : Nat), .int .i64 ((S.len hh).2 : Nat)]) ∧ w = w' := by
  have hat := st_at h hi hh hl
  unfold St.len
  generalize S.at hh = r at *
  have HG := Lib.hid hat
  clear hat h hi
  go_enter Tryz.func85, Tryz.ntmps85
  go_wp2_with fail
  refine HG.out.mono ?_
  rintro e w1 ⟨rfl, rfl⟩
  go_wp2_with fail
  go_ret2
  exact ⟨rfl, rfl⟩
theorem st_place {w : World} {ps : Nat} {S : St} {Y : Nat → Prop} (h : StOn w ps S Y) (hi : Inv S) (hh k : Nat) (hl : hh < 18446744073709551616) (hk : k ≤ 4611686018427387904) :
    Calls Tryz.prog 165 #[PV ps, .int .u64 hh, .int .i64 k] w fun e w' => e = .returned (.tuple #[.int .i64 ((S.place hh k).1 : Nat), .int .i64 ((S.place hh k).2 : Nat)]) ∧ w = w' := by
  have hat := st_at h hi hh hl
  have h3 := hi.at_le hh
  have h4 := hi.addr_le hh
  obtain ⟨R, hR⟩ : ∃ R, S.place hh k = R := ⟨_, rfl⟩
  rw [hR]
  unfold St.place at hR
  rcases S.at_cases hh with ⟨a, n, h1, _⟩ | ⟨h1, _⟩
  · rw [h1] at h3 h4 hat hR
    simp only at h3 h4 hat hR
    by_cases hkn : k < n
    · rw [if_pos hkn] at hR
      have hkn' : (k : Int) < n := by omega
      have HG := Lib.hid (And.intro hat hR)
      clear hat hR h hi h1 hkn
      go_enter Tryz.func165, Tryz.ntmps165
      go_wp2_with fail
      refine HG.out.1.mono ?_
      rintro e w1 ⟨rfl, rfl⟩
      go_wp2_with fail
      go_ret2
      obtain rfl := HG.out.2
      exact ⟨rfl, rfl⟩
    · rw [if_neg hkn] at hR
      have hkn' : (n : Int) ≤ k := by omega
      have HG := Lib.hid (And.intro hat hR)
      clear hat hR h hi h1 hkn
      go_enter Tryz.func165, Tryz.ntmps165
      go_wp2_with fail
      refine HG.out.1.mono ?_
      rintro e w1 ⟨rfl, rfl⟩
      go_wp2_with fail
      go_ret2
      obtain rfl := HG.out.2
      exact ⟨rfl, rfl⟩
  · rw [h1] at hat hR
    simp only at hat hR
    have HG := Lib.hid (And.intro hat hR)
    clear hat hR h hi h1
    go_enter Tryz.func165, Tryz.ntmps165
    go_wp2_with fail
    refine HG.out.1.mono ?_
    rintro e w1 ⟨rfl, rfl⟩
    go_wp2_with fail
    go_ret2
    obtain rfl := HG.out.2
    exact ⟨rfl, rfl⟩
theorem st_get {w : World} {ps : Nat} {S : St} {Y : Nat → Prop} (h : StOn w ps S Y) (hi : Inv S) (hh k : Nat) (hl : hh < 18446744073709551616) (hk : k ≤ 4611686018427387904) :
    Calls Tryz.prog 119 #[PV ps, .int .u64 hh, .int .i64 k] w fun e w' => e = .returned (.tuple #[.int .u64 ((S.get hh k).1 : Nat), .int .i64 ((S.get hh k).2 : Nat)]) ∧ w = w' := by
  have hpl := st_place h hi hh k hl hk
  have h3 := hi.place_le hh k
  obtain ⟨pa, pm, ph, pt, v, h⟩ := h
  obtain ⟨_, _, c2, _, _⟩ := h.cells
  obtain ⟨R, hR⟩ : ∃ R, S.get hh k = R := ⟨_, rfl⟩
  rw [hR]
  rw [St.get_place] at hR
  rcases S.place_cases hh k with ⟨p, h1⟩ | ⟨er, h1⟩
  · rw [h1] at hpl h3 hR
    simp only at hpl h3 hR
    have hrd := h.heap.read p (by omega)
    have HG := Lib.hid (And.intro hpl (And.intro hR hrd))
    clear hpl hR h hi h1 hrd
    go_enter Tryz.func119, Tryz.ntmps119
    go_wp2_with fail
    refine HG.out.1.mono ?_
    rintro e w1 ⟨rfl, rfl⟩
    go_wp2_with fail
    refine HG.out.2.2.mono ?_
    rintro e w1 ⟨rfl, rfl⟩
    go_wp2_with fail
    go_ret2
    obtain rfl := HG.out.2.1
    exact ⟨rfl, rfl⟩
  · rw [h1] at hpl hR
    simp only at hpl hR
    have hq1 : (((er + 1 : Nat) : Int) != 0) = true := by simp; omega
    obtain ⟨g1, hg1⟩ : ∃ g1, er + 1 = g1 := ⟨_, rfl⟩
    rw [hg1] at hpl hR hq1
    have HG := Lib.hid (And.intro hpl hR)
    clear hpl hR h hi h1 hg1
    go_enter Tryz.func119, Tryz.ntmps119
    go_wp2_with fail
    refine HG.out.1.mono ?_
    rintro e w1 ⟨rfl, rfl⟩
    go_wp2_with fail
    go_ret2
    obtain rfl := HG.out.2
    exact ⟨rfl, rfl⟩
theorem st_put {w : World} {ps : Nat} {S : St} {Y : Nat → Prop} (h : StOn w ps S Y) (hi : Inv S) (hh k x : Nat) (hl : hh < 18446744073709551616) (hk : k ≤ 4611686018427387904) (hx : x < 18446744073709551616) :
    Calls Tryz.prog 121 #[PV ps, .int .u64 hh, .int .i64 k, .int .u64 x] w fun e w' => e = .returned (.int .i64 ((S.put hh k x).1 : Nat)) ∧ StOn w' ps (S.put hh k x).2 Y ∧ Keep Y w w' := by
  have hpl := st_place h hi hh k hl hk
  have h3 := hi.place_le hh k
  have hY := h.yl
  obtain ⟨R, hR⟩ : ∃ R, S.put hh k x = R := ⟨_, rfl⟩
  rw [hR]
  rw [St.put_place] at hR
  rcases S.place_cases hh k with ⟨p, h1⟩ | ⟨er, h1⟩
  · rw [h1] at hpl h3 hR
    simp only at hpl h3 hR
    obtain ⟨pa, pm, ph, pt, v, h⟩ := h
    obtain ⟨_, _, c2, _, _⟩ := h.cells
    have hwr := h.heap.write p x (by omega) hx
    have HG := Lib.hid (And.intro hpl (And.intro hR (And.intro hwr h)))
    clear hpl hR h hi h1 hwr hY
    go_enter Tryz.func121, Tryz.ntmps121
    go_wp2_with fail
    refine HG.out.1.mono ?_
    rintro e w1 ⟨rfl, rfl⟩
    go_wp2_with fail
    refine HG.out.2.2.1.mono ?_
    rintro e w1 ⟨rfl, ha, hkp⟩
    have HA := Lib.hid (And.intro (HG.out.2.2.2.arena ha hkp) (hkp.mono fun _ => YS.self))
    clear ha hkp
    go_wp2_with fail
    go_ret
    obtain rfl := HG.out.2.1
    exact ⟨rfl, ⟨_, _, _, _, _, HA.out.1⟩, HA.out.2⟩
  · rw [h1] at hpl hR
    simp only at hpl hR
    have hq1 : (((er + 1 : Nat) : Int) != 0) = true := by simp; omega
    obtain ⟨g1, hg1⟩ : ∃ g1, er + 1 = g1 := ⟨_, rfl⟩
    rw [hg1] at hpl hR hq1
    have HG := Lib.hid (And.intro hpl (And.intro hR h))
    clear hpl hR h hi h1 hg1 hY
    go_enter Tryz.func121, Tryz.ntmps121
    go_wp2_with fail
    refine HG.out.1.mono ?_
    rintro e w1 ⟨rfl, rfl⟩
    go_wp2_with fail
    go_ret
    obtain rfl := HG.out.2.1
    exact ⟨rfl, HG.out.2.2, Keep.refl _ _⟩
end Go.Proofs.YtepdkbmnkjfcpaaGreatDoor
namespace Go.Proofs.YtepdkbmnkjfcpaaGreatDoor
open Go.RowKit
section
variable {F : Fence} {n : Nat} {P : Program} {ops : Array Oper} {md : Region.Mode} {C : World → Prop}
def noDefer (ops : Array Oper) : Bool := ops.all fun o => match o.op with | .defer _ => false | _ => true
theorem noDefer_at (h : noDefer ops = true) {i : Nat} {o : Oper} (ho : ops[i]? = some o) : ∀ c, o.op ≠ .defer c := fun c hc => by
  obtain ⟨hi, rfl⟩ := Array.getElem?_eq_some_iff.1 ho
  have := Array.all_eq_true.1 h i hi
  rw [hc] at this
  cases this
theorem wpIn_of_quietR {o : Oper} {a : Act} {K : Act → Prop} {K' : Act → World → Prop} {Q' : Exit → Act → World → Prop} {w : World} (hnd : ∀ c, o.op ≠ .defer c) (hw : C w) (h : ∀ a w', C w' → K a → K' a w')
    (ha : o.askedIn F P a C) (hh : o.quietIn F n P a C K) : o.wpIn F n P a w K' Q' := by
  obtain ⟨v, h1, h2⟩ := hh
  have h3 := h1 w hw
  unfold Oper.quietAtIn at h3
  unfold Oper.wpIn
  refine ⟨ha w hw, ?_⟩
  rw [Oper.semAt_eq _ _ _ hnd]
  generalize (execOp a.eval o).run P w = r at *
  cases r with
  | ok x w' =>
    cases x <;> simp only [Oper.quietUponIn] at h3 <;> simp only [Oper.uponIn]
    case value u =>
      obtain ⟨e1, e2⟩ := h3
      rw [e1, e2]
      exact h _ _ hw h2
    case skip =>
      obtain ⟨e1, e2⟩ := h3
      rw [e1, ← e2]
      exact h _ _ hw h2
    case enter f args =>
      obtain ⟨e1, hd, hc⟩ := h3
      rw [e1]
      exact ⟨hd, hc.mono fun e w'' ⟨he, hw''⟩ => by subst he; exact h _ _ hw'' h2⟩
  | halt x w' => simp only [Oper.quietUponIn] at h3
theorem wpOpIn_of_qOpInR {i : Nat} {a : Act} {K : Act → Prop} {K' : Act → World → Prop} {Q' : Exit → Act → World → Prop} {w : World} (hnd : noDefer ops = true) (hC : C w) (h : ∀ a w', C w' → K a → K' a w')
    (hh : qOpIn F n P ops C i K a) : wpOpIn F n P ops Q' i K' a w := by
  unfold qOpIn at hh
  unfold wpOpIn
  split
  · rename_i ho; simp only [ho] at hh; exact h _ _ hC hh
  · rename_i o ho
    simp only [ho] at hh
    obtain ⟨ha, hh⟩ := hh
    split
    · rename_i hw; simp only [hw, if_true] at hh; exact wpIn_of_quietR (noDefer_at hnd ho) hC h ha hh
    · rename_i hw; simp only [hw] at hh; exact ⟨ha w hC, h _ _ hC hh⟩
theorem wpAnyIn_of_quietR {Q : Act → Prop} {Q' : Exit → Act → World → Prop} (hnd : noDefer ops = true) (hQ : ∀ a w, C w → Q a → Q' .normal a w) : ∀ (fuel : Nat) (listed : Array Bool) (a : Act) (w : World), C w →
    wpAnyQIn F n P md ops C Q fuel listed a → wpAnyIn F n P md ops Q' fuel listed a w
  | 0, _, _, _, hw, h => ⟨h.1, hQ _ _ hw h.2⟩
  | fuel + 1, _, _, _, hw, h => ⟨fun h0 => hQ _ _ hw (h.1 h0), fun i hi => wpOpIn_of_qOpInR hnd hw (fun a' w' hw' => wpAnyIn_of_quietR hnd hQ fuel _ a' w' hw') (h.2 i hi)⟩
theorem wpIn_region_quietR {id : Nat} {Q : Exit → Act → World → Prop} {a : Act} {w : World} (hnd : noDefer ops = true) (hm : P.follows .mixedOrders = true) (hB : Region.lexB .any ops = true) (hC : C { w with drawn := w.drawn + 1 })
    (h : wpQuietIn F n P ops C (fun a' => ∀ w', C w' → Q .normal a' w') ops.toList a) : (Code.region id ops true).wpIn F n P Q a w := by
  simp only [Region.lexB, Bool.and_eq_true] at hB
  refine wpIn_region_any hm (wpAnyIn_of_quietR (Q := fun a' => ∀ w', C w' → Q .normal a' w') hnd (fun _ w' hw' h => h w' hw') _ _ _ _ hC ?_)
  have := wpAnyQIn_lex (F := F) (n := n) (C := C) (md := .any) hB.1 ops.toList 0 (Array.replicate ops.size false) a (by simp) (by simpa using hB.2) h
  simpa using this
theorem wpIn_region_keeps {id : Nat} {Q : Exit → Act → World → Prop} {a : Act} {w : World} {l : List Oper} (I : World → Prop) (hnd : noDefer l.toArray = true) (hm : P.follows .mixedOrders = true) (hB : Region.lexB .any l.toArray = true)
    (hI : I w.drew)
    (h : Nonempty (Keeps I) → wpQuietIn F n P l.toArray (fun w' => ∃ x : Keeps I, w' = x.to) (fun a' => ∀ w', (∃ x : Keeps I, w' = x.to) → Q .normal a' w') l a) : (Code.region id l.toArray true).wpIn F n P Q a w :=
  wpIn_region_quietR (C := fun w' => ∃ x : Keeps I, w' = x.to) hnd hm hB ⟨⟨_, hI⟩, rfl⟩ (by simpa using h ⟨⟨_, hI⟩⟩)
theorem CallsIn.keeps_below {f : FuncId} {args : Array Value} {w : World} {v : Value} {x : Keeps (Below w.heap.size w)}
    (h : CallsIn F n P f args x.to fun e w' => e = .returned v ∧ Below x.to.heap.size x.to w') : CallsIn F n P f args x.to fun e w'' => e = .returned v ∧ ∃ y : Keeps (Below w.heap.size w), w'' = y.to :=
  h.mono fun _ _ ⟨he, hb⟩ => ⟨he, ⟨_, x.ok.trans (hb.mono x.ok.size)⟩, rfl⟩
theorem CallsIn.keeps_same {f : FuncId} {args : Array Value} {I : World → Prop} {v : Value} {x : Keeps I}
    (h : CallsIn F n P f args x.to fun e w' => e = .returned v ∧ x.to = w') : CallsIn F n P f args x.to fun e w'' => e = .returned v ∧ ∃ y : Keeps I, w'' = y.to :=
  h.mono fun _ _ ⟨he, hb⟩ => ⟨he, x, hb.symm⟩
end
end Go.Proofs.YtepdkbmnkjfcpaaGreatDoor
namespace Go.Proofs.YtepdkbmnkjfcpaaGreatDoor
open Go.RowKit Go.BigFrame Go.Maps Go.WideMaps Lf
open Go.Shelf
def Cx (W : World) (B i : Nat) (v : Value) : Prop := W.cell? ⟨B, i, none⟩ = some v ∧ W.frozen? ⟨B, i, none⟩ = false
theorem Cx.kept {W W' : World} {row : Option Nat} {B i : Nat} {v : Value} (h : Cx W B i v) (hg : W.grownBy W' row) (hr : ∀ r, row = some r → ∃ o : Obj, W.heap[r]? = some o ∧ o.isCells = false) : Cx W' B i v :=
  ⟨cell_kept h.1 hg hr, (frozen_kept h.1 hg hr).trans h.2⟩
theorem Cx.alloc {W : World} {B i : Nat} {v : Value} (h : Cx W B i v) (o : Obj) : Cx (W.alloc o) B i v := h.kept (World.grownBy_alloc W o none) (fun r e => by cases e)
theorem Cx.drewN {W : World} {B i : Nat} {v : Value} (h : Cx W B i v) (n : Nat) : Cx (W.drewN n) B i v := h
theorem Cx.set {W : World} {B i : Nat} {v : Value} (h : Cx W B i v) (u : Value) : Cx (W.setCell ⟨B, i, none⟩ u) B i u :=
  ⟨World.cell?_setCell_same' _ _ _ (by rw [h.1]; rfl), by rw [World.frozen?_setCell]; exact h.2⟩
theorem Cx.other {W : World} {B C i j : Nat} {v : Value} (h : Cx W B i v) (u : Value) (hne : B ≠ C) : Cx (W.setCell ⟨C, j, none⟩ u) B i v := by
  refine ⟨?_, by rw [World.frozen?_setCell]; exact h.2⟩
  have e : (W.setCell ⟨C, j, none⟩ u).cell? ⟨B, i, none⟩ = W.cell? ⟨B, i, none⟩ := World.cell?_of_block (Below.heap_setCell W ⟨C, j, none⟩ u B hne)
  rw [e]
  exact h.1
theorem Cx.put {W : World} {B D i : Nat} {v : Value} {o o' : Obj} (h : Cx W B i v) (hD : W.heap[D]? = some o) (ho : o.isCells = false) : Cx (W.putObj D o') B i v :=
  h.kept (grownBy_putObj' W D o') (fun r e => by cases e; exact ⟨o, hD, ho⟩)
theorem Cx.below {W W' : World} {B n i : Nat} {v : Value} (h : Cx W B i v) (hb : Below n W W') (hB : B < n) : Cx W' B i v :=
  ⟨(hb.cell (p := ⟨B, i, none⟩) hB).trans h.1, (hb.frozen (p := ⟨B, i, none⟩) hB).trans h.2⟩
theorem Cx.lt {W : World} {B i : Nat} {v : Value} (h : Cx W B i v) : B < W.heap.size := by
  have := h.1
  unfold World.cell? at this
  split at this
  · rename_i heq; exact (Array.getElem?_eq_some_iff.1 heq).1
  · cases this
def Hx (W : World) (B : Nat) (x : Head) : Prop := W.heap[B]? = some (.cells #[.int .i64 x.kind, .int .i64 x.n, .int .u64 x.w] 204 (0, 0))
theorem Hx.new (W : World) (x : Head) : Hx (W.alloc (.cells #[.int .i64 x.kind, .int .i64 x.n, .int .u64 x.w] 204)) W.heap.size x := by
  show (W.heap.push _)[W.heap.size]? = _
  simp
theorem Hx.lt {W : World} {B : Nat} {x : Head} (h : Hx W B x) : B < W.heap.size := (Array.getElem?_eq_some_iff.1 h).1
theorem Hx.kept {W W' : World} {row : Option Nat} {B : Nat} {x : Head} (h : Hx W B x) (hg : W.grownBy W' row) (hr : ∀ r, row = some r → ∃ o : Obj, W.heap[r]? = some o ∧ o.isCells = false) : Hx W' B x :=
  (hg.block B h.lt (fun e => by
    obtain ⟨o, ho, hc⟩ := hr B e.symm
    rw [show W.heap[B]? = _ from h] at ho
    injection ho with ho
    rw [← ho] at hc
    cases hc)).trans h
theorem Hx.alloc {W : World} {B : Nat} {x : Head} (h : Hx W B x) (o : Obj) : Hx (W.alloc o) B x := h.kept (World.grownBy_alloc W o none) (fun r e => by cases e)
theorem Hx.other {W : World} {B C j : Nat} {x : Head} (h : Hx W B x) (u : Value) (hne : B ≠ C) : Hx (W.setCell ⟨C, j, none⟩ u) B x := (Below.heap_setCell W ⟨C, j, none⟩ u B hne).trans h
theorem Hx.put {W : World} {B D : Nat} {x : Head} {o o' : Obj} (h : Hx W B x) (hD : W.heap[D]? = some o) (ho : o.isCells = false) : Hx (W.putObj D o') B x :=
  h.kept (grownBy_putObj' W D o') (fun r e => by cases e; exact ⟨o, hD, ho⟩)
theorem Hx.below {W W' : World} {B n : Nat} {x : Head} (h : Hx W B x) (hb : Below n W W') (hB : B < n) : Hx W' B x := (hb.block B hB).trans h
theorem Hx.set {W : World} {B : Nat} {x : Head} (h : Hx W B x) (y : Head) : Hx (((W.setCell ⟨B, 0, none⟩ (.int .i64 y.kind)).setCell ⟨B, 1, none⟩ (.int .i64 y.n)).setCell ⟨B, 2, none⟩ (.int .u64 y.w)) B y := by
  have := heap_setCell (v := .int .u64 y.w) (i := 2) (heap_setCell (v := .int .i64 y.n) (i := 1) (heap_setCell (v := .int .i64 y.kind) (i := 0) h))
  exact this
theorem Hx.c0 {W : World} {B : Nat} {x : Head} (h : Hx W B x) : Cx W B 0 (.int .i64 x.kind) := ⟨by rw [cell_of_block h]; rfl, frozen_of_block h⟩
theorem Hx.c1 {W : World} {B : Nat} {x : Head} (h : Hx W B x) : Cx W B 1 (.int .i64 x.n) := ⟨by rw [cell_of_block h]; rfl, frozen_of_block h⟩
theorem Hx.c2 {W : World} {B : Nat} {x : Head} (h : Hx W B x) : Cx W B 2 (.int .u64 x.w) := ⟨by rw [cell_of_block h]; rfl, frozen_of_block h⟩
theorem findIn_cons (addr p : Nat) (x : Head) (r : List (Nat × Head)) : findIn addr ((p, x) :: r) =
    if x.kind = 2 ∧ addr = p * 64 + 2 then some (p, 0, x)
    else if x.kind ≠ 1 ∨ addr / 64 ≠ p then findIn addr r
    else match slotAt addr p x with
      | some k => some (p, k, x)
      | none => findIn addr r := rfl
theorem findIn_snoc (addr : Nat) (x : Nat × Head) : ∀ q : List (Nat × Head), findIn addr q = none → findIn addr (q ++ [x]) = findIn addr [x]
  | [], _ => rfl
  | (p, y) :: q, h => by
    rw [findIn_cons] at h
    rw [List.cons_append, findIn_cons]
    split at h
    · cases h
    · rename_i h1
      rw [if_neg h1]
      split at h
      · rename_i h2
        rw [if_pos h2]
        exact findIn_snoc addr x q h
      · rename_i h2
        rw [if_neg h2]
        split at h
        · cases h
        · exact findIn_snoc addr x q h
theorem findIn_some (addr : Nat) (r : Nat × Nat × Head) : ∀ q t : List (Nat × Head), findIn addr q = some r → findIn addr (q ++ t) = some r
  | (p, y) :: q, t, h => by
    rw [findIn_cons] at h
    rw [List.cons_append, findIn_cons]
    split at h
    · rename_i h1
      rw [if_pos h1]; exact h
    · rename_i h1
      rw [if_neg h1]
      split at h
      · rename_i h2
        rw [if_pos h2]
        exact findIn_some addr r q t h
      · rename_i h2
        rw [if_neg h2]
        split at h
        · exact h
        · exact findIn_some addr r q t h
def findV (r : Option (Nat × Nat × Head)) : Value := match r with | some (p, k, x) => .tuple #[.int .i64 p, .int .i64 k, headV x, .bool true] | none => .tuple #[.int .i64 0, .int .i64 0, headV ⟨0, 0, 0⟩, .bool false]
theorem find_range_none {q : Nat → Bool} {m : Nat} (h : ∀ j, j < m → q j = false) : (List.range m).find? q = none :=
  List.find?_eq_none.2 fun j hj => by rw [h j (List.mem_range.1 hj)]; simp
theorem find_range_some {q : Nat → Bool} {m k : Nat} (hk : k < m) (hq : q k = true) (h : ∀ j, j < k → q j = false) : (List.range m).find? q = some k := by
  rw [List.find?_eq_some_iff_append]
  refine ⟨hq, List.range k, (List.range (m - k - 1)).map (· + (k + 1)), ?_, fun j hj => by rw [h j (List.mem_range.1 hj)]; rfl⟩
  rw [show m = k + ((m - k - 1) + 1) by omega, List.range_add, List.range_succ_eq_map]
  simp
  intro a _
  omega
end Go.Proofs.YtepdkbmnkjfcpaaGreatDoor
