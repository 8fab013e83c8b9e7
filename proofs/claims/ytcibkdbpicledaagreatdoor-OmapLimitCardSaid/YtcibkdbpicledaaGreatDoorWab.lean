import Derived.Test.YtcibkdbpicledaaGreatDoorWaa
import Derived.Test.YtcibkdbpicledaaGreatDoorProg
import Derived.WalkKit
import Derived.BigFrame
import Derived.IntWalk
import Derived.Maps.Own
import Derived.Maps.OwnOps
import Derived.Maps.Views
import Derived.Deep.QuietTactic
import Derived.BigQuiet
import Derived.Outline
import Derived.Deep.DeepFit
import Derived.WalkSpells
import Derived.Below
set_option maxRecDepth 100000
namespace Go.Proofs.YtcibkdbpicledaaGreatDoor.Lf
abbrev Page := List Nat
structure Slab where
 quota : Nat
 pages : List (Nat × Page)
def Slab.page? (s : Slab) (p : Nat) : Option Page := s.pages.lookup p
def Slab.keys (s : Slab) : List Nat := s.pages.map (·.1)
def lastAddr : Nat := 67108863
def Slab.rd (s : Slab) (a : Nat) : Nat := match s.page? (a / 64) with | some l => l.getD (a % 64) 0 | none => 0
def Slab.err (s : Slab) (a : Nat) : Nat := if lastAddr < a then 2 else match s.page? (a / 64) with | some _ => 0 | none => 5
def Slab.wr (s : Slab) (a w : Nat) : Slab := { s with pages := s.pages.map fun x => if x.1 = a / 64 then (x.1, x.2.set (a % 64) w) else x }
def ins (p : Nat) (l : Page) : List (Nat × Page) → List (Nat × Page)
 | [] => [(p, l)]
 | x :: r => if x.1 < p then x :: ins p l r else (p, l) :: x :: r
def zeros : Page := List.replicate 64 0
def Slab.add (s : Slab) (p : Nat) : Slab := { s with pages := ins p zeros s.pages }
def Slab.addRun (s : Slab) (p : Nat) : Nat → Slab
 | 0 => s
 | n + 1 => (s.addRun p n).add (p + n)
def Slab.del (s : Slab) (p : Nat) : Slab := { s with pages := s.pages.filter fun x => x.1 ≠ p }
def Slab.delRun (s : Slab) (p : Nat) : Nat → Slab
 | 0 => s
 | n + 1 => (s.delRun p n).del (p + n)
def Slab.run (s : Slab) (n p : Nat) : Bool := (List.range n).all fun k => (s.page? (p + k)).isNone
def Slab.runIs (s : Slab) (n p : Nat) : Bool := (List.range n).all fun k => (s.page? (p + k)).isSome
def Slab.firstRun (s : Slab) (n : Nat) : Nat → Nat → Nat
 | 0, p => p
 | f + 1, p => if s.run n p then p else s.firstRun n f (p + 1)
def Slab.grant (s : Slab) (n : Nat) : (Nat × Nat) × Slab :=
 if n < 1 ∨ 4096 < n then ((0, 2), s)
 else if s.quota < (s.pages.length + n) * 64 then ((0, 3), s)
 else
  let p := s.firstRun n (s.pages.length * n + 1) 0
  ((p, 0), s.addRun p n)
def Slab.release (s : Slab) (p n : Nat) : Nat × Slab :=
 if n < 1 ∨ 4096 < n ∨ 1048575 + 1 < p + n then (2, s)
 else if s.runIs n p then (0, s.delRun p n) else (5, s)
def Slab.zero (s : Slab) (a : Nat) : Nat → Slab
 | 0 => s
 | n + 1 => (s.zero a n).wr (a + n) 0
def bitOf (w k : Nat) : Bool := decide (k < 64) && w.testBit k
def bitSet (w k : Nat) : Nat := w ||| 2 ^ k
def bitClear (w k : Nat) : Nat := w &&& (18446744073709551615 - 2 ^ k)
def bitFree (w n : Nat) : Option Nat := (List.range n).find? fun k => !w.testBit k
def sizes : List Nat := [2, 3, 4, 6, 9, 13, 19, 28]
def classSize (c : Nat) : Nat := sizes.getD c 0
def classSlots (c : Nat) : Nat := if c < 8 then 62 / sizes.getD c 1 else 0
def classOf (words : Nat) : Option Nat := (List.range 8).find? fun c => words ≤ sizes.getD c 0
def classPlace (c k : Nat) : Nat := if c < 8 ∧ k < classSlots c then 2 + k * classSize c else 0
def classPages (words : Nat) : Nat := if words < 1 ∨ 4000 < words then 0 else match classOf words with | some _ => 1 | none => (words + 65) / 64
structure Head where
 kind : Nat
 n : Nat
 w : Nat
deriving DecidableEq
def getH (s : Slab) (p : Nat) : Head := ⟨s.rd (p * 64) % 256, s.rd (p * 64) / 256, s.rd (p * 64 + 1)⟩
def putH (s : Slab) (p : Nat) (x : Head) : Slab := (s.wr (p * 64) (x.kind + x.n * 256)).wr (p * 64 + 1) x.w
def headsFrom (s : Slab) : Nat → List Nat → List (Nat × Head)
 | _, [] => []
 | next, p :: r =>
  if p < next then headsFrom s next r
  else (p, getH s p) :: headsFrom s (if (getH s p).kind = 2 then p + (getH s p).n else next) r
def heads (s : Slab) : List (Nat × Head) := headsFrom s 0 s.keys
def placeH (p c k : Nat) : Nat := p * 64 + classPlace c k
def slotAt (addr p : Nat) (x : Head) : Option Nat := (List.range (classSlots x.n)).find? fun k => decide (placeH p x.n k = addr) && bitOf x.w k
def findIn (addr : Nat) : List (Nat × Head) → Option (Nat × Nat × Head)
 | [] => none
 | (p, x) :: r =>
  if x.kind = 2 ∧ addr = p * 64 + 2 then some (p, 0, x)
  else if x.kind ≠ 1 ∨ addr / 64 ≠ p then findIn addr r
  else match slotAt addr p x with
   | some k => some (p, k, x)
   | none => findIn addr r
def findH (s : Slab) (addr : Nat) : Option (Nat × Nat × Head) := findIn addr (heads s)
def spotIn (c : Nat) : List (Nat × Head) → Option (Nat × Nat)
 | [] => none
 | (p, x) :: r =>
  if x.kind ≠ 1 ∨ x.n ≠ c then spotIn c r
  else match bitFree x.w (classSlots c) with
   | some k => some (p, k)
   | none => spotIn c r
def spotH (s : Slab) (c : Nat) : Option (Nat × Nat) := spotIn c (heads s)
def clearH (s : Slab) (a n : Nat) : Slab := s.zero a n
def takeH (s : Slab) (p k : Nat) : Nat × Slab :=
 let x := getH s p
 let s1 := putH s p { x with w := bitSet x.w k }
 (placeH p x.n k, clearH s1 (placeH p x.n k) (classSize x.n))
def allocH (s : Slab) (words : Nat) : (Nat × Nat) × Slab :=
 if words < 1 ∨ 4000 < words then ((0, 2), s)
 else match classOf words with
  | none =>
   match s.grant (classPages words) with
   | ((p, 0), s1) => ((p * 64 + 2, 0), putH s1 p ⟨2, classPages words, words⟩)
   | ((_, e), s1) => ((0, e), s1)
  | some c =>
   match spotH s c with
   | some (p, k) => (((takeH s p k).1, 0), (takeH s p k).2)
   | none =>
    match s.grant 1 with
    | ((p, 0), s1) => (((takeH (putH s1 p ⟨1, c, 0⟩) p 0).1, 0), (takeH (putH s1 p ⟨1, c, 0⟩) p 0).2)
    | ((_, e), s1) => ((0, e), s1)
def leaveH (s : Slab) (p k : Nat) : Slab :=
 let x := getH s p
 let y : Head := { x with w := bitClear x.w k }
 let s1 := putH s p y
 if y = ⟨1, x.n, 0⟩ then (s1.release p 1).2 else s1
def freeH (s : Slab) (addr : Nat) : Nat × Slab :=
 match findH s addr with
 | none => (5, s)
 | some (p, k, x) => if x.kind = 2 then s.release p x.n else (0, leaveH s p k)
structure Slot where
 is : Nat
 gen : Nat
 addr : Nat
structure Tab where
 most : Nat
 last : Nat
 slots : List Slot
def nameOf (gen k : Nat) : Nat := gen * 4294967296 + (k + 1)
def firstFree : List Slot → Nat → Nat
 | [], k => k
 | x :: r, k => if x.is = 0 then k else firstFree r (k + 1)
def Tab.genAt (t : Tab) (k : Nat) : Nat := (t.slots.getD k ⟨0, 0, 0⟩).gen
def Tab.open (t : Tab) (addr : Nat) : (Nat × Nat) × Tab :=
 let k := firstFree t.slots 0
 if k = t.most then ((0, 10), t)
 else
  let l := if k = t.slots.length then t.slots ++ [⟨0, 0, 0⟩] else t.slots
  let g := (t.genAt k + 1) % 4294967296
  ((nameOf g k, 0), { t with slots := l.set k ⟨1, g, addr⟩ })
def Tab.of (t : Tab) (h : Nat) : Option Nat :=
 let k := h % 4294967296
 if k = 0 then none
 else match t.slots[k - 1]? with
  | none => none
  | some x => if x.is = 1 ∧ x.gen = h / 4294967296 then some (k - 1) else none
def Tab.at (t : Tab) (h : Nat) : Nat × Nat :=
 match t.of h with
 | none => (0, 7)
 | some k => ((t.slots.getD k ⟨0, 0, 0⟩).addr, 0)
def Tab.close (t : Tab) (h : Nat) : Nat × Tab :=
 match t.of h with
 | none => (7, t)
 | some k =>
  let x := t.slots.getD k ⟨0, 0, 0⟩
  (0, { t with slots := t.slots.set k { x with is := if x.gen = t.last then 2 else 0 } })
structure St where
 a : Slab
 t : Tab
def St.make (s : St) (n : Nat) : (Nat × Nat) × St :=
 if 3998 < n then ((0, 2), s)
 else match allocH s.a (n + 2) with
  | ((addr, 0), a1) =>
   match s.t.open addr with
   | ((h, 0), t1) => ((h, 0), ⟨(a1.wr addr h).wr (addr + 1) n, t1⟩)
   | ((_, e), t1) => ((0, e), ⟨(freeH a1 addr).2, t1⟩)
  | ((_, e), a1) => ((0, e), { s with a := a1 })
def St.at (s : St) (h : Nat) : Nat × Nat × Nat :=
 match s.t.at h with
 | (addr, 0) => (addr, s.a.rd (addr + 1), 0)
 | (_, e) => (0, 0, e)
def St.len (s : St) (h : Nat) : Nat × Nat := ((s.at h).2.1, (s.at h).2.2)
def St.drop (s : St) (h : Nat) : Nat × St :=
 match s.at h with
 | (addr, _, 0) => ((s.t.close h).1, ⟨(freeH s.a addr).2, (s.t.close h).2⟩)
 | (_, _, e) => (e, s)
def St.get (s : St) (h k : Nat) : Nat × Nat :=
 match s.at h with
 | (addr, n, 0) => if k < n then (s.a.rd (addr + 2 + k), s.a.err (addr + 2 + k)) else (0, 2)
 | (_, _, e) => (0, e)
def St.put (s : St) (h k w : Nat) : Nat × St :=
 match s.at h with
 | (addr, n, 0) => if k < n then (s.a.err (addr + 2 + k), { s with a := s.a.wr (addr + 2 + k) w }) else (2, s)
 | (_, _, e) => (e, s)
def St.words (s : St) : Nat := s.a.pages.length * 64
end Go.Proofs.YtcibkdbpicledaaGreatDoor.Lf
namespace Go.Proofs.YtcibkdbpicledaaGreatDoor
open Go.RowKit Go.BigFrame Go.Maps Go.WideMaps Lf
abbrev PV (b : Nat) : Value := .pointer (some ⟨b, 0, none⟩)
structure Keep (Y : Nat → Prop) (w w' : World) : Prop where
 os : w'.os = w.os
 tape : w'.tape = w.tape
 output : w'.output = w.output
 size : w.heap.size ≤ w'.heap.size
 block : ∀ k, Y k → w'.heap[k]? = w.heap[k]?
theorem Keep.refl (Y : Nat → Prop) (w : World) : Keep Y w w := ⟨rfl, rfl, rfl, Nat.le_refl _, fun _ _ => rfl⟩
theorem Keep.trans {Y : Nat → Prop} {a b c : World} (h : Keep Y a b) (k : Keep Y b c) : Keep Y a c :=
 ⟨k.os.trans h.os, k.tape.trans h.tape, k.output.trans h.output, Nat.le_trans h.size k.size, fun i hi => (k.block i hi).trans (h.block i hi)⟩
theorem Keep.mono {Y Z : Nat → Prop} {a b : World} (h : Keep Y a b) (hz : ∀ k, Z k → Y k) : Keep Z a b := ⟨h.os, h.tape, h.output, h.size, fun k hk => h.block k (hz k hk)⟩
theorem Keep.below {B : Nat} {a b : World} (h : Keep (· < B) a b) : Below B a b := ⟨h.os, h.tape, h.output, h.size, h.block⟩
theorem Keep.of_below {Y : Nat → Prop} {a b : World} (h : Below a.heap.size a b) (hy : ∀ k, Y k → k < a.heap.size) : Keep Y a b := ⟨h.os, h.tape, h.output, h.size, fun k hk => h.block k (hy k hk)⟩
theorem Keep.cell {Y : Nat → Prop} {a b : World} (h : Keep Y a b) {p : Addr} (hp : Y p.block) : b.cell? p = a.cell? p := World.cell?_of_block (w := a) (h.block p.block hp)
theorem Keep.drewN (Y : Nat → Prop) (w : World) (n : Nat) : Keep Y w (w.drewN n) := ⟨rfl, rfl, rfl, Nat.le_refl _, fun _ _ => rfl⟩
def pgElem (v : Value) : Option (DataW Unit × List MemPlace) :=
 match v with
 | .pointer none => some (.lit (.bool false), [])
 | .pointer (some ⟨b, 0, none⟩) => some (.lit (.int .i64 b), [])
 | _ => none
def pgD (ks : List Nat) (blk : Nat → Nat) : DataW Unit := .map (ks.map fun p : Nat => (Lit.int .i64 (p : Int), .lit (.int .i64 (blk p))))
def pgV (ks : List Nat) (blk : Nat → Nat) (p : Nat) : Value := if p ∈ ks then PV (blk p) else .pointer none
theorem pgElem_inv {v : Value} {d : DataW Unit} {ps : List MemPlace} (h : pgElem v = some (d, ps)) : (v = .pointer none ∧ d = .lit (.bool false)) ∨ ∃ b : Nat, v = PV b ∧ d = .lit (.int .i64 b) := by
 unfold pgElem at h
 split at h
 · cases h; exact Or.inl ⟨rfl, rfl⟩
 · cases h; exact Or.inr ⟨_, rfl, rfl⟩
 · cases h
theorem pgElem_pv (b : Nat) : pgElem (PV b) = some (.lit (.int .i64 b), []) := rfl
theorem atKey_pgD (ks : List Nat) (blk : Nat → Nat) (p : Nat) (z : DataW Unit) : (pgD ks blk).atKey (.int .i64 p) z = if p ∈ ks then .lit (.int .i64 (blk p)) else z := by
 induction ks with
 | nil => simp [pgD, DataW.atKey]
 | cons q r ih =>
  unfold pgD DataW.atKey at ih ⊢
  simp only [List.map_cons, List.find?_cons, Lit.sameKey, true_and]
  by_cases e : q = p
  · subst e; simp
  · have e' : ¬ ((q : Int) = (p : Int)) := by omega
    simp only [e', decide_false, List.mem_cons]
    have e2 : ¬ p = q := fun h => e h.symm
    simp only [e2, false_or]
    exact ih
structure SlabWF (s : Slab) : Prop where
 sorted : s.keys.Pairwise (· < ·)
 len : ∀ x ∈ s.pages, x.2.length = 64
 word : ∀ x ∈ s.pages, ∀ v ∈ x.2, v < 18446744073709551616
 top : ∀ p ∈ s.keys, p ≤ 1048575
 room : s.pages.length * 64 ≤ s.quota
 quota : s.quota ≤ 262144
structure SlabOn (w : World) (pa pm : Nat) (s : Slab) (Y : Nat → Prop) (blk : Nat → Nat) : Prop where
 wf : SlabWF s
 hd : w.heap[pa]? = some (.cells #[.int .i64 s.quota, .map (some pm)] 171 (0, 0))
 map : w.ownsMap Tryz.prog 3 pgElem pm s.pages.length (pgD s.keys blk)
 pg : ∀ x ∈ s.pages, w.heap[blk x.1]? = some (.cells (x.2.map fun v : Nat => Value.int .u64 v).toArray 240 (0, 0))
 inj : ∀ p ∈ s.keys, ∀ q ∈ s.keys, blk p = blk q → p = q
 ya : ¬ Y pa
 ym : ¬ Y pm
 yp : ∀ p ∈ s.keys, ¬ Y (blk p)
 yl : ∀ k, Y k → k < w.heap.size
theorem cell_of_block {w : World} {b o : Nat} {cs : Array Value} {t : TypeId} {fr : Nat × Nat} (h : w.heap[b]? = some (.cells cs t fr)) : w.cell? ⟨b, o, none⟩ = cs[o]? := by
 simp [World.cell?, h]
theorem frozen_of_block {w : World} {b o : Nat} {cs : Array Value} {t : TypeId} (h : w.heap[b]? = some (.cells cs t (0, 0))) : w.frozen? ⟨b, o, none⟩ = false := by
 simp [World.frozen?, h]
theorem drewN_heap (w : World) (n : Nat) : (w.drewN n).heap = w.heap := rfl
theorem SlabOn.cells {w : World} {pa pm : Nat} {s : Slab} {Y : Nat → Prop} {blk : Nat → Nat} (h : SlabOn w pa pm s Y blk) :
 w.cell? ⟨pa, 0, none⟩ = some (.int .i64 s.quota) ∧ w.cell? ⟨pa, 1, none⟩ = some (.map (some pm)) := by
 rw [cell_of_block h.hd, cell_of_block h.hd]
 exact ⟨rfl, rfl⟩
theorem lawInt : Keyed Tryz.prog 3 := int_keyed Tryz.underlying3
theorem zeroPg (w : World) : (zeroValue 238).run Tryz.prog w = .ok (.pointer none) w := by kernel_rfl
theorem SlabOn.look {w : World} {pa pm : Nat} {s : Slab} {Y : Nat → Prop} {blk : Nat → Nat} (h : SlabOn w pa pm s Y blk) (p : Nat) (hp : p ≤ 9223372036854775807) :
 (Instr.lookup 169 (.map (some pm)) (.int .i64 p) false).run Tryz.prog w = .ok (pgV s.keys blk p) w := by
 have hw : (Lit.int .i64 (p : Int)).wf = true := by
  have h1 : IntKind.min .i64 ≤ (p : Int) := by show (-9223372036854775808 : Int) ≤ p; omega
  have h2 : (p : Int) ≤ IntKind.max .i64 := by show (p : Int) ≤ 9223372036854775807; omega
  simp only [Lit.wf, h1, h2, decide_true, Bool.and_self]
 obtain ⟨v, ps, hrun, hv⟩ := h.map.lookup lawInt Tryz.underlying169 (zeroPg w) (show pgElem (.pointer none) = some (.lit (.bool false), []) from rfl) (keyOf_int_mk Tryz.underlying3 hw)
 rw [atKey_pgD] at hv
 rw [hrun]
 unfold pgV
 by_cases e : p ∈ s.keys
 · rw [if_pos e] at hv ⊢
   rcases pgElem_inv hv with ⟨_, h2⟩ | ⟨b, h1, h2⟩
   · cases h2
   · simp only [DataW.lit.injEq, Lit.int.injEq, true_and] at h2
     rw [h1, show b = blk p by omega]
 · rw [if_neg e] at hv ⊢
   rcases pgElem_inv hv with ⟨h1, _⟩ | ⟨b, _, h2⟩
   · rw [h1]
   · cases h2
end Go.Proofs.YtcibkdbpicledaaGreatDoor
namespace Go.Proofs.YtcibkdbpicledaaGreatDoor
open Go.RowKit
structure Keeps (I : World → Prop) where
 to : World
 ok : I to
theorem wp_region_keeps {P : Program} {id : Nat} {Q : Exit → Act → World → Prop} {a : Act} {w : World} {l : List Oper} (I : World → Prop) (hm : P.follows .mixedOrders = true) (hB : Region.lexB .any l.toArray = true)
 (hI : I w.drew)
 (h : Nonempty (Keeps I) → wpQuiet P l.toArray (fun w' => ∃ x : Keeps I, w' = x.to) (fun a' => ∀ w', (∃ x : Keeps I, w' = x.to) → Q .normal a' w') l a) : (Code.region id l.toArray true).wp P Q a w :=
 wp_region_quiet (C := fun w' => ∃ x : Keeps I, w' = x.to) hm hB ⟨⟨_, hI⟩, rfl⟩ (by simpa using h ⟨⟨_, hI⟩⟩)
theorem Calls.keeps_below {P : Program} {f : FuncId} {args : Array Value} {w : World} {v : Value} {x : Keeps (Below w.heap.size w)}
 (h : Calls P f args x.to fun e w' => e = .returned v ∧ Below x.to.heap.size x.to w') : Calls P f args x.to fun e w'' => e = .returned v ∧ ∃ y : Keeps (Below w.heap.size w), w'' = y.to :=
 h.mono fun _ _ ⟨he, hb⟩ => ⟨he, ⟨_, x.ok.trans (hb.mono x.ok.size)⟩, rfl⟩
