/- What the arena, the heap, the handles and the store compute: plain Lean, no program in sight. The arena in memory. The classes' sizes: the iterator's contract; Size, Slots: the walks. The classes: Of, Pages, Place: the walks. -/
import Derived.Test.YtepdkbmnkjfcpaaGreatDoorProg
import Derived.WalkKit
import Derived.BigFrame
import Derived.IntWalk
import Derived.Lib.Hide
import Derived.Maps.Own
import Derived.Maps.OwnOps
import Derived.Maps.Views
import Derived.Deep.QuietTactic
import Derived.BigQuiet
import Derived.Outline
import Derived.Deep.DeepFit
import Derived.WalkSpells
import Derived.RangeFuncNested
import Derived.RangeFuncBound
import Derived.RangeFuncCalls
import Derived.RangeFuncLeaves
import Derived.RangeFuncMany
import Derived.RangeFuncFrom
import Derived.Shelf.Abstract
import Derived.Shelf.RegionOpen
import Derived.OwnWalkIn
import Derived.TacticsInMore
import Derived.LoopNIn
import Derived.LoopIn
set_option maxRecDepth 100000
set_option maxHeartbeats 1000000
namespace Go.Proofs.YtepdkbmnkjfcpaaGreatDoor.Lf
abbrev Page := List Nat
structure Slab where
  quota : Nat
  pages : List (Nat × Page)
def Slab.page? (s : Slab) (p : Nat) : Option Page := s.pages.lookup p
def Slab.keys (s : Slab) : List Nat := s.pages.map (·.1)
def lastAddr : Nat := 67108863
def Slab.rd (s : Slab) (a : Nat) : Nat := match s.page? (a / 64) with | some l => l.getD (a % 64) 0 | none => 0
def Slab.err (s : Slab) (a : Nat) : Nat := if lastAddr < a then 2 else match s.page? (a / 64) with | some _ => 0 | none => 5
def Slab.wr (s : Slab) (a w : Nat) : Slab := { s with pages := s.pages.map fun x => if x.1 = a / 64 then (x.1, x.2.set (a % 64) w) else x }
def ins (p : Nat) (l : Page) : List (Nat × Page) → List (Nat × Page)
  | [] => [(p, l)]
  | x :: r => if x.1 < p then x :: ins p l r else (p, l) :: x :: r
def zeros : Page := List.replicate 64 0
def Slab.add (s : Slab) (p : Nat) : Slab := { s with pages := ins p zeros s.pages }
def Slab.addRun (s : Slab) (p : Nat) : Nat → Slab
  | 0 => s
  | n + 1 => (s.addRun p n).add (p + n)
def Slab.del (s : Slab) (p : Nat) : Slab := { s with pages := s.pages.filter fun x => x.1 ≠ p }
def Slab.delRun (s : Slab) (p : Nat) : Nat → Slab
  | 0 => s
  | n + 1 => (s.delRun p n).del (p + n)
def Slab.run (s : Slab) (n p : Nat) : Bool := (List.range n).all fun k => (s.page? (p + k)).isNone
def Slab.runIs (s : Slab) (n p : Nat) : Bool := (List.range n).all fun k => (s.page? (p + k)).isSome
def Slab.firstRun (s : Slab) (n : Nat) : Nat → Nat → Nat
  | 0, p => p
  | f + 1, p => if s.run n p then p else s.firstRun n f (p + 1)
def Slab.grant (s : Slab) (n : Nat) : (Nat × Nat) × Slab :=
  if n < 1 ∨ 4096 < n then ((0, 2), s)
  else if s.quota < (s.pages.length + n) * 64 then ((0, 3), s)
  else
    let p := s.firstRun n (s.pages.length * n + 1) 0
    ((p, 0), s.addRun p n)
def Slab.release (s : Slab) (p n : Nat) : Nat × Slab :=
  if n < 1 ∨ 4096 < n ∨ 1048575 + 1 < p + n then (2, s)
  else if s.runIs n p then (0, s.delRun p n) else (5, s)
def Slab.zero (s : Slab) (a : Nat) : Nat → Slab
  | 0 => s
  | n + 1 => (s.zero a n).wr (a + n) 0
def bitOf (w k : Nat) : Bool := decide (k < 64) && w.testBit k
def bitSet (w k : Nat) : Nat := w ||| 2 ^ k
def bitClear (w k : Nat) : Nat := w &&& (18446744073709551615 - 2 ^ k)
def bitFree (w n : Nat) : Option Nat := (List.range n).find? fun k => !w.testBit k
def sizes : List Nat := [2, 3, 4, 6, 9, 13, 19, 28]
def classSize (c : Nat) : Nat := sizes.getD c 0
def classSlots (c : Nat) : Nat := if c < 8 then 62 / sizes.getD c 1 else 0
def classOf (words : Nat) : Option Nat := (List.range 8).find? fun c => words ≤ sizes.getD c 0
def classPlace (c k : Nat) : Nat := if c < 8 ∧ k < classSlots c then 2 + k * classSize c else 0
def classPages (words : Nat) : Nat := if words < 1 ∨ 4000 < words then 0 else match classOf words with | some _ => 1 | none => (words + 65) / 64
structure Head where
  kind : Nat
  n : Nat
  w : Nat
deriving DecidableEq
def getH (s : Slab) (p : Nat) : Head := ⟨s.rd (p * 64) % 256, s.rd (p * 64) / 256, s.rd (p * 64 + 1)⟩
def putH (s : Slab) (p : Nat) (x : Head) : Slab := (s.wr (p * 64) (x.kind + x.n * 256)).wr (p * 64 + 1) x.w
def headsFrom (s : Slab) : Nat → List Nat → List (Nat × Head)
  | _, [] => []
  | next, p :: r =>
    if p < next then headsFrom s next r
    else (p, getH s p) :: headsFrom s (if (getH s p).kind = 2 then p + (getH s p).n else next) r
def heads (s : Slab) : List (Nat × Head) := headsFrom s 0 s.keys
def placeH (p c k : Nat) : Nat := p * 64 + classPlace c k
def slotAt (addr p : Nat) (x : Head) : Option Nat := (List.range (classSlots x.n)).find? fun k => decide (placeH p x.n k = addr) && bitOf x.w k
def findIn (addr : Nat) : List (Nat × Head) → Option (Nat × Nat × Head)
  | [] => none
  | (p, x) :: r =>
    if x.kind = 2 ∧ addr = p * 64 + 2 then some (p, 0, x)
    else if x.kind ≠ 1 ∨ addr / 64 ≠ p then findIn addr r
    else match slotAt addr p x with
      | some k => some (p, k, x)
      | none => findIn addr r
def findH (s : Slab) (addr : Nat) : Option (Nat × Nat × Head) := findIn addr (heads s)
def spotIn (c : Nat) : List (Nat × Head) → Option (Nat × Nat)
  | [] => none
  | (p, x) :: r =>
    if x.kind ≠ 1 ∨ x.n ≠ c then spotIn c r
    else match bitFree x.w (classSlots c) with
      | some k => some (p, k)
      | none => spotIn c r
def spotH (s : Slab) (c : Nat) : Option (Nat × Nat) := spotIn c (heads s)
def clearH (s : Slab) (a n : Nat) : Slab := s.zero a n
def takeH (s : Slab) (p k : Nat) : Nat × Slab :=
  let x := getH s p
  let s1 := putH s p { x with w := bitSet x.w k }
  (placeH p x.n k, clearH s1 (placeH p x.n k) (classSize x.n))
def allocH (s : Slab) (words : Nat) : (Nat × Nat) × Slab :=
  if words < 1 ∨ 4000 < words then ((0, 2), s)
  else match classOf words with
    | none =>
      match s.grant (classPages words) with
      | ((p, 0), s1) => ((p * 64 + 2, 0), putH s1 p ⟨2, classPages words, words⟩)
      | ((_, e), s1) => ((0, e), s1)
    | some c =>
      match spotH s c with
      | some (p, k) => (((takeH s p k).1, 0), (takeH s p k).2)
      | none =>
        match s.grant 1 with
        | ((p, 0), s1) => (((takeH (putH s1 p ⟨1, c, 0⟩) p 0).1, 0), (takeH (putH s1 p ⟨1, c, 0⟩) p 0).2)
        | ((_, e), s1) => ((0, e), s1)
def leaveH (s : Slab) (p k : Nat) : Slab :=
  let x := getH s p
  let y : Head := { x with w := bitClear x.w k }
  let s1 := putH s p y
  if y = ⟨1, x.n, 0⟩ then (s1.release p 1).2 else s1
def freeH (s : Slab) (addr : Nat) : Nat × Slab :=
  match findH s addr with
  | none => (5, s)
  | some (p, k, x) => if x.kind = 2 then s.release p x.n else (0, leaveH s p k)
def liveIn : List (Nat × Head) → List Nat
  | [] => []
  | (p, x) :: r => (if x.kind = 2 then [p * 64 + 2] else ((List.range (classSlots x.n)).filter fun k => bitOf x.w k).map (placeH p x.n)) ++ liveIn r
def liveH (s : Slab) : List Nat := liveIn (heads s)
structure Slot where
  is : Nat
  gen : Nat
  addr : Nat
structure Tab where
  most : Nat
  last : Nat
  slots : List Slot
def nameOf (gen k : Nat) : Nat := gen * 4294967296 + (k + 1)
def firstFree : List Slot → Nat → Nat
  | [], k => k
  | x :: r, k => if x.is = 0 then k else firstFree r (k + 1)
def Tab.genAt (t : Tab) (k : Nat) : Nat := (t.slots.getD k ⟨0, 0, 0⟩).gen
def Tab.open (t : Tab) (addr : Nat) : (Nat × Nat) × Tab :=
  let k := firstFree t.slots 0
  if k = t.most then ((0, 10), t)
  else
    let l := if k = t.slots.length then t.slots ++ [⟨0, 0, 0⟩] else t.slots
    let g := (t.genAt k + 1) % 4294967296
    ((nameOf g k, 0), { t with slots := l.set k ⟨1, g, addr⟩ })
def Tab.of (t : Tab) (h : Nat) : Option Nat :=
  let k := h % 4294967296
  if k = 0 then none
  else match t.slots[k - 1]? with
    | none => none
    | some x => if x.is = 1 ∧ x.gen = h / 4294967296 then some (k - 1) else none
def Tab.at (t : Tab) (h : Nat) : Nat × Nat :=
  match t.of h with
  | none => (0, 7)
  | some k => ((t.slots.getD k ⟨0, 0, 0⟩).addr, 0)
def Tab.close (t : Tab) (h : Nat) : Nat × Tab :=
  match t.of h with
  | none => (7, t)
  | some k =>
    let x := t.slots.getD k ⟨0, 0, 0⟩
    (0, { t with slots := t.slots.set k { x with is := if x.gen = t.last then 2 else 0 } })
structure St where
  a : Slab
  t : Tab
def St.make (s : St) (n : Nat) : (Nat × Nat) × St :=
  if 3998 < n then ((0, 2), s)
  else match allocH s.a (n + 2) with
    | ((addr, 0), a1) =>
      match s.t.open addr with
      | ((h, 0), t1) => ((h, 0), ⟨(a1.wr addr h).wr (addr + 1) n, t1⟩)
      | ((_, e), t1) => ((0, e), ⟨(freeH a1 addr).2, t1⟩)
    | ((_, e), a1) => ((0, e), { s with a := a1 })
def St.at (s : St) (h : Nat) : Nat × Nat × Nat :=
  match s.t.at h with
  | (addr, 0) => (addr, s.a.rd (addr + 1), 0)
  | (_, e) => (0, 0, e)
def St.len (s : St) (h : Nat) : Nat × Nat := ((s.at h).2.1, (s.at h).2.2)
def St.drop (s : St) (h : Nat) : Nat × St :=
  match s.at h with
  | (addr, _, 0) => ((s.t.close h).1, ⟨(freeH s.a addr).2, (s.t.close h).2⟩)
  | (_, _, e) => (e, s)
def St.get (s : St) (h k : Nat) : Nat × Nat :=
  match s.at h with
  | (addr, n, 0) => if k < n then (s.a.rd (addr + 2 + k), s.a.err (addr + 2 + k)) else (0, 2)
  | (_, _, e) => (0, e)
def St.put (s : St) (h k w : Nat) : Nat × St :=
  match s.at h with
  | (addr, n, 0) => if k < n then (s.a.err (addr + 2 + k), { s with a := s.a.wr (addr + 2 + k) w }) else (2, s)
  | (_, _, e) => (e, s)
def St.all (s : St) : List Nat := (liveH s.a).map fun a => s.a.rd a
def St.words (s : St) : Nat := s.a.pages.length * 64
end Go.Proofs.YtepdkbmnkjfcpaaGreatDoor.Lf
namespace Go.Proofs.YtepdkbmnkjfcpaaGreatDoor
open Go.RowKit Go.BigFrame Go.Maps Go.WideMaps Lf
abbrev PV (b : Nat) : Value := .pointer (some ⟨b, 0, none⟩)
structure Keep (Y : Nat → Prop) (w w' : World) : Prop where
  os : w'.os = w.os
  tape : w'.tape = w.tape
  output : w'.output = w.output
  size : w.heap.size ≤ w'.heap.size
  block : ∀ k, Y k → w'.heap[k]? = w.heap[k]?
theorem Keep.refl (Y : Nat → Prop) (w : World) : Keep Y w w := ⟨rfl, rfl, rfl, Nat.le_refl _, fun _ _ => rfl⟩
theorem Keep.trans {Y : Nat → Prop} {a b c : World} (h : Keep Y a b) (k : Keep Y b c) : Keep Y a c :=
  ⟨k.os.trans h.os, k.tape.trans h.tape, k.output.trans h.output, Nat.le_trans h.size k.size, fun i hi => (k.block i hi).trans (h.block i hi)⟩
theorem Keep.mono {Y Z : Nat → Prop} {a b : World} (h : Keep Y a b) (hz : ∀ k, Z k → Y k) : Keep Z a b := ⟨h.os, h.tape, h.output, h.size, fun k hk => h.block k (hz k hk)⟩
theorem Keep.below {B : Nat} {a b : World} (h : Keep (· < B) a b) : Below B a b := ⟨h.os, h.tape, h.output, h.size, h.block⟩
theorem Keep.of_below {Y : Nat → Prop} {a b : World} (h : Below a.heap.size a b) (hy : ∀ k, Y k → k < a.heap.size) : Keep Y a b := ⟨h.os, h.tape, h.output, h.size, fun k hk => h.block k (hy k hk)⟩
theorem Keep.cell {Y : Nat → Prop} {a b : World} (h : Keep Y a b) {p : Addr} (hp : Y p.block) : b.cell? p = a.cell? p := World.cell?_of_block (w := a) (h.block p.block hp)
theorem Keep.drewN (Y : Nat → Prop) (w : World) (n : Nat) : Keep Y w (w.drewN n) := ⟨rfl, rfl, rfl, Nat.le_refl _, fun _ _ => rfl⟩
def pgElem (v : Value) : Option (DataW Unit × List MemPlace) :=
  match v with
  | .pointer none => some (.lit (.bool false), [])
  | .pointer (some ⟨b, 0, none⟩) => some (.lit (.int .i64 b), [])
  | _ => none
def pgD (ks : List Nat) (blk : Nat → Nat) : DataW Unit := .map (ks.map fun p : Nat => (Lit.int .i64 (p : Int), .lit (.int .i64 (blk p))))
def pgV (ks : List Nat) (blk : Nat → Nat) (p : Nat) : Value := if p ∈ ks then PV (blk p) else .pointer none
theorem pgElem_inv {v : Value} {d : DataW Unit} {ps : List MemPlace} (h : pgElem v = some (d, ps)) : (v = .pointer none ∧ d = .lit (.bool false)) ∨ ∃ b : Nat, v = PV b ∧ d = .lit (.int .i64 b) := by
  unfold pgElem at h
  split at h
  · cases h; exact Or.inl ⟨rfl, rfl⟩
  · cases h; exact Or.inr ⟨_, rfl, rfl⟩
  · cases h
theorem pgElem_pv (b : Nat) : pgElem (PV b) = some (.lit (.int .i64 b), []) := rfl
theorem atKey_pgD (ks : List Nat) (blk : Nat → Nat) (p : Nat) (z : DataW Unit) : (pgD ks blk).atKey (.int .i64 p) z = if p ∈ ks then .lit (.int .i64 (blk p)) else z := by
  induction ks with
  | nil => simp [pgD, DataW.atKey]
  | cons q r ih =>
    unfold pgD DataW.atKey at ih ⊢
    simp only [List.map_cons, List.find?_cons, Lit.sameKey, true_and]
    by_cases e : q = p
    · subst e; simp
    · have e' : ¬ ((q : Int) = (p : Int)) := by omega
      simp only [e', decide_false, List.mem_cons]
      have e2 : ¬ p = q := fun h => e h.symm
      simp only [e2, false_or]
      exact ih
structure SlabWF (s : Slab) : Prop where
  sorted : s.keys.Pairwise (· < ·)
  len : ∀ x ∈ s.pages, x.2.length = 64
  word : ∀ x ∈ s.pages, ∀ v ∈ x.2, v < 18446744073709551616
  top : ∀ p ∈ s.keys, p ≤ 1048575
  room : s.pages.length * 64 ≤ s.quota
  quota : s.quota ≤ 262144
structure SlabOn (w : World) (pa pm : Nat) (s : Slab) (Y : Nat → Prop) (blk : Nat → Nat) : Prop where
  wf : SlabWF s
  hd : w.heap[pa]? = some (.cells #[.int .i64 s.quota, .map (some pm)] 153 (0, 0))
  map : w.ownsMap Tryz.prog 3 pgElem pm s.pages.length (pgD s.keys blk)
  pg : ∀ x ∈ s.pages, w.heap[blk x.1]? = some (.cells (x.2.map fun v : Nat => Value.int .u64 v).toArray 310 (0, 0))
  inj : ∀ p ∈ s.keys, ∀ q ∈ s.keys, blk p = blk q → p = q
  ya : ¬ Y pa
  ym : ¬ Y pm
  yp : ∀ p ∈ s.keys, ¬ Y (blk p)
  yl : ∀ k, Y k → k < w.heap.size
theorem cell_of_block {w : World} {b o : Nat} {cs : Array Value} {t : TypeId} {fr : Nat × Nat} (h : w.heap[b]? = some (.cells cs t fr)) : w.cell? ⟨b, o, none⟩ = cs[o]? := by
  simp [World.cell?, h]
theorem frozen_of_block {w : World} {b o : Nat} {cs : Array Value} {t : TypeId} (h : w.heap[b]? = some (.cells cs t (0, 0))) : w.frozen? ⟨b, o, none⟩ = false := by
  simp [World.frozen?, h]
theorem drewN_heap (w : World) (n : Nat) : (w.drewN n).heap = w.heap := rfl
theorem SlabOn.cells {w : World} {pa pm : Nat} {s : Slab} {Y : Nat → Prop} {blk : Nat → Nat} (h : SlabOn w pa pm s Y blk) :
    w.cell? ⟨pa, 0, none⟩ = some (.int .i64 s.quota) ∧ w.cell? ⟨pa, 1, none⟩ = some (.map (some pm)) := by
  rw [cell_of_block h.hd, cell_of_block h.hd]
  exact ⟨rfl, rfl⟩
theorem lawInt : Keyed Tryz.prog 3 := int_keyed Tryz.underlying3
theorem zeroPg (w : World) : (zeroValue 258).run Tryz.prog w = .ok (.pointer none) w := by kernel_rfl
theorem SlabOn.look {w : World} {pa pm : Nat} {s : Slab} {Y : Nat → Prop} {blk : Nat → Nat} (h : SlabOn w pa pm s Y blk) (p : Nat) (hp : p ≤ 9223372036854775807) :
    (Instr.lookup 151 (.map (some pm)) (.int .i64 p) false).run Tryz.prog w = .ok (pgV s.keys blk p) w := by
  have hw : (Lit.int .i64 (p : Int)).wf = true := by
    have h1 : IntKind.min .i64 ≤ (p : Int) := by show (-9223372036854775808 : Int) ≤ p; omega
    have h2 : (p : Int) ≤ IntKind.max .i64 := by show (p : Int) ≤ 9223372036854775807; omega
    simp only [Lit.wf, h1, h2, decide_true, Bool.and_self]
  obtain ⟨v, ps, hrun, hv⟩ := h.map.lookup lawInt Tryz.underlying151 (zeroPg w) (show pgElem (.pointer none) = some (.lit (.bool false), []) from rfl) (keyOf_int_mk Tryz.underlying3 hw)
  rw [atKey_pgD] at hv
  rw [hrun]
  unfold pgV
  by_cases e : p ∈ s.keys
  · rw [if_pos e] at hv ⊢
    rcases pgElem_inv hv with ⟨_, h2⟩ | ⟨b, h1, h2⟩
    · cases h2
    · simp only [DataW.lit.injEq, Lit.int.injEq, true_and] at h2
      rw [h1, show b = blk p by omega]
  · rw [if_neg e] at hv ⊢
    rcases pgElem_inv hv with ⟨h1, _⟩ | ⟨b, _, h2⟩
    · rw [h1]
    · cases h2
end Go.Proofs.YtepdkbmnkjfcpaaGreatDoor
namespace Go.Proofs.YtepdkbmnkjfcpaaGreatDoor
open Go.RowKit Go.BigFrame Lf
open Go.Shelf
attribute [local go_sem] Oper.semAt_some
def Bx (W : World) (B : Nat) (v : Value) : Prop := W.cell? ⟨B, 0, none⟩ = some v ∧ W.frozen? ⟨B, 0, none⟩ = false
theorem Bx.new (W : World) (v : Value) (t : TypeId) : Bx (W.alloc (.cells #[v] t)) W.heap.size v := by
  have h : (W.alloc (.cells #[v] t)).heap[W.heap.size]? = some (.cells #[v] t (0, 0)) := by show (W.heap.push _)[W.heap.size]? = _; simp
  exact ⟨by rw [cell_of_block h]; rfl, frozen_of_block h⟩
theorem Bx.kept {W W' : World} {row : Option Nat} {B : Nat} {v : Value} (h : Bx W B v) (hg : W.grownBy W' row) (hr : ∀ r, row = some r → ∃ o : Obj, W.heap[r]? = some o ∧ o.isCells = false) : Bx W' B v :=
  ⟨cell_kept h.1 hg hr, (frozen_kept h.1 hg hr).trans h.2⟩
theorem Bx.alloc {W : World} {B : Nat} {v : Value} (h : Bx W B v) (o : Obj) : Bx (W.alloc o) B v := h.kept (World.grownBy_alloc W o none) (fun r e => by cases e)
theorem Bx.drewN {W : World} {B : Nat} {v : Value} (h : Bx W B v) (n : Nat) : Bx (W.drewN n) B v := h
theorem Bx.set {W : World} {B : Nat} {v : Value} (h : Bx W B v) (u : Value) : Bx (W.setCell ⟨B, 0, none⟩ u) B u :=
  ⟨World.cell?_setCell_same' _ _ _ (by rw [h.1]; rfl), by rw [World.frozen?_setCell]; exact h.2⟩
theorem Bx.other {W : World} {B C : Nat} {v : Value} (h : Bx W B v) (u : Value) (hne : B ≠ C) : Bx (W.setCell ⟨C, 0, none⟩ u) B v := by
  refine ⟨?_, by rw [World.frozen?_setCell]; exact h.2⟩
  have e : (W.setCell ⟨C, 0, none⟩ u).cell? ⟨B, 0, none⟩ = W.cell? ⟨B, 0, none⟩ := World.cell?_of_block (Below.heap_setCell W ⟨C, 0, none⟩ u B hne)
  rw [e]
  exact h.1
theorem Bx.put {W : World} {B D : Nat} {v : Value} {o o' : Obj} (h : Bx W B v) (hD : W.heap[D]? = some o) (ho : o.isCells = false) : Bx (W.putObj D o') B v :=
  h.kept (grownBy_putObj' W D o') (fun r e => by cases e; exact ⟨o, hD, ho⟩)
theorem Bx.below {W W' : World} {B n : Nat} {v : Value} (h : Bx W B v) (hb : Below n W W') (hB : B < n) : Bx W' B v :=
  ⟨(hb.cell (p := ⟨B, 0, none⟩) hB).trans h.1, (hb.frozen (p := ⟨B, 0, none⟩) hB).trans h.2⟩
def szs (k : Nat) : Nat := [2, 3, 4, 6, 9, 13, 19, 28, 42].getD k 0
abbrev encP (p : Nat × Nat) : Array Value := #[.int .i64 p.1, .int .i64 p.2]
def szL (k : Nat) : List (Nat × Nat) := (List.range k).map fun i => (i, szs i)
theorem szL_succ (k : Nat) : szL (k + 1) = szL k ++ [(k, szs k)] := by simp [szL, List.range_succ]
theorem szL_length (k : Nat) : (szL k).length = k := by simp [szL]
theorem szs_step : ∀ k, k < 8 → 2 ≤ szs k ∧ szs k ≤ 28 ∧ szs (k + 1) = szs k + max (szs k / 2) 1 := by decide
theorem sizes_stops (F : Fence) (n : Nat) (hg : F.fn 246) (hro : F.round = none) (hn : 1 ≤ n) (w : World) :
    SeqStopsA F n Tryz.prog 246 #[] encP (fun xs => xs = szL 8) (fun pre => ∃ k, k < 8 ∧ pre = szL (k + 1)) 8 w := fun l J Jx W _ _ _ hY h0 => by
  refine callsIn_of_wp Tryz.func246 rfl hg ?_ hro
  simp only [Tryz.ntmps246, List.size_toArray, List.length_cons, List.length_nil, Nat.reduceAdd, Nat.reduceSub, Array.replicate_succ, Array.replicate_zero, List.push_toArray, List.append_toArray, List.nil_append, List.cons_append]
  gi_wp2
  gi_loopw [2, 3] (fun c x wr => ∃ k : Nat, k ≤ 8 ∧ c = .int .i64 k ∧ x = .int .i64 (szs k) ∧ J (szL k) wr) (fun c _ _ => 8 - (intOf c).toNat)
  case atStart => exact ⟨0, by omega, rfl, rfl, h0⟩
  case round =>
    obtain ⟨k, hk, rfl, rfl, hJ⟩ := hrel
    by_cases hlt : k < 8
    · obtain ⟨fn, tmps, assign, body, hy, hR⟩ := hY (szL k) (k, szs k) wr hJ (by rw [szL_length]; exact hlt)
      rw [← szL_succ] at hR
      obtain ⟨h1, h2, h3⟩ := szs_step k hlt
      have h4 : ((szs (k + 1) : Nat) : Int) = (szs k : Int) + max ((szs k : Int) / 2) 1 := by rw [h3]; omega
      generalize szs k = z at *
      generalize hze : szs (k + 1) = z1 at *
      have HZ := Lib.hid (And.intro hze h4)
      clear hze h4 h3
      dsimp only [encP] at hy
      gi_wp2
      refine hR.mono ?_
      rintro e W3 (⟨rfl, hJ3, hk3⟩ | ⟨rfl, hJx3⟩)
      · gi_wp2
        go_roundw
        case rel => exact ⟨k + 1, by omega, by go_num, by rw [HZ.out.1]; exact congrArg (Value.int .i64) (by have := HZ.out.2; omega), hJ3⟩
        case measure => simp [intOf]; omega
      · gi_wp2
        refine bodyPost_ret (results_none rfl _ _ _) rfl ?_
        exact ⟨⟨_, rfl⟩, .inr ⟨_, ⟨k, hlt, rfl⟩, hJx3⟩⟩
    · obtain rfl : k = 8 := by omega
      gi_wp2
      go_end0
      exact ⟨⟨_, rfl⟩, .inl ⟨_, rfl, hJ⟩⟩
def sizeRes (c : Int) : Nat × Nat := if 0 ≤ c ∧ c < 8 then (classSize c.toNat, 0) else (0, 2)
theorem sizeRes_no {c : Int} (h : ∀ x ∈ szL 8, (x.1 : Int) ≠ c) : sizeRes c = (0, 2) := by
  unfold sizeRes
  rw [if_neg]
  rintro ⟨h1, h2⟩
  exact h (c.toNat, szs c.toNat) (List.mem_map.2 ⟨c.toNat, by rw [List.mem_range]; omega, rfl⟩) (by simp; omega)
theorem szs_size : ∀ k, k < 8 → szs k = classSize k := by decide
theorem szL_last {k : Nat} {p : List (Nat × Nat)} {x : Nat × Nat} (h : p ++ [x] = szL (k + 1)) : p = szL k ∧ x = (k, szs k) := by
  rw [szL_succ] at h
  have := List.append_inj' h rfl
  exact ⟨this.1, by simpa using this.2⟩
theorem sizeRes_yes {k : Nat} (h : k < 8) : sizeRes k = (szs k, 0) := by
  unfold sizeRes
  rw [if_pos (by omega), szs_size k h]
  simp
theorem sizes_any (w : World) : Calls Tryz.prog 217 #[] w fun e w' => e = .returned (.func (.func 246) #[] #[]) ∧ w = w' := by
  go_enter Tryz.func217, Tryz.ntmps217
  go_wp2
  go_ret
  exact ⟨rfl, rfl⟩
theorem class_size (c : Int) (w : World) :
    Calls Tryz.prog 182 #[.int .i64 c] w fun e w' => e = .returned (.tuple #[.int .i64 (sizeRes c).1, .int .i64 (sizeRes c).2]) ∧ Below w.heap.size w w' := by
  refine (callsIn_wide (n := 4)).1 ?_
  have h1 : 1 ≤ 4 := by omega
  have hS : Fence.wide.fn 217 := trivial
  have hs1 : ∀ W, CallsIn Fence.wide 3 Tryz.prog 217 #[] W _ := fun W => callsIn_wide.2 (sizes_any W)
  obtain ⟨R, hR⟩ : ∃ R, sizeRes c = R := ⟨_, rfl⟩
  rw [hR]
  have HR := Lib.hid hR
  clear hR
  refine callsIn_of_wp_marks Tryz.func182 rfl trivial ?_ rfl
  simp only [Tryz.ntmps182, List.size_toArray, List.length_cons, List.length_nil, Nat.reduceAdd, Nat.reduceSub, Array.replicate_succ, Array.replicate_zero, List.push_toArray, List.append_toArray, List.nil_append, List.cons_append]
  gi_wp2_with (gi_at_call 217; refine (hs1 _).mono ?_; rintro e w' ⟨rfl, rfl⟩)
  have c0 := Bx.new w (.int .i64 c) 3
  have c1 := Bx.new (w.alloc (.cells #[.int .i64 c] 3)) (.int .i64 0) 3
  have c2 := Bx.new ((w.alloc (.cells #[.int .i64 c] 3)).alloc (.cells #[.int .i64 0] 3)) (.int .i64 0) 26
  simp only [World.size_alloc] at c1 c2
  have hB0 : Below w.heap.size w (((w.alloc (.cells #[.int .i64 c] 3)).alloc (.cells #[.int .i64 0] 3)).alloc (.cells #[.int .i64 0] 26)) := (((Below.refl _ w).alloc (Nat.le_refl _) _).alloc (by simp) _).alloc (by simp; omega) _
  refine wpIn_rangeFunc_ownF rfl h1 (gf := 246) (lb := #[]) rfl trivial (enters_of Tryz.func246 (by kernel_rfl) rfl)
    (sizes_stops Fence.wide (4 - 1) trivial rfl (by omega) _) walksK_t walksK_b (Below.refl _ _) (fun _ => rfl)
    (fun pre W => ((∀ y ∈ pre, (y.1 : Int) ≠ c) ∧ Bx W w.heap.size (.int .i64 c) ∧ Bx W (w.heap.size + 1) (.int .i64 0) ∧ Bx W (w.heap.size + 1 + 1) (.int .i64 0)) ∧ Below w.heap.size w W)
    (fun cd pre W => (cd = .ret ∧ (∃ p x, pre = p ++ [x] ∧ (x.1 : Int) = c ∧ Bx W (w.heap.size + 1) (.int .i64 x.2)) ∧ Bx W (w.heap.size + 1 + 1) (.int .i64 0)) ∧ Below w.heap.size w W)
    (OwnFrom.and (Own.from (fun s A B row hs hg hr => ⟨hs.1, hs.2.1.kept hg hr, hs.2.2.1.kept hg hr, hs.2.2.2.kept hg hr⟩) _) (ownFrom_below (Nat.le_refl _) (by simp; omega)))
    (fun cd => OwnFrom.and (Own.from (fun s A B row hs hg hr => ⟨hs.1, (let ⟨p, x, h1, h2, h3⟩ := hs.2.1; ⟨p, x, h1, h2, h3.kept hg hr⟩), hs.2.2.kept hg hr⟩) _) (ownFrom_below (Nat.le_refl _) (by simp; omega)))
    ⟨⟨by simp, (c0.alloc _).alloc _, c1.alloc _, c2⟩, hB0⟩
    (fun x => { tmps := #[.int .i64 c, .pointer (some ⟨w.heap.size, 0, none⟩), .pointer (some ⟨w.heap.size + 1, 0, none⟩), .pointer (some ⟨w.heap.size + 1 + 1, 0, none⟩), .int .i64 x.1, .int .i64 x.2, .func (.func 246) #[] #[], .int .i64 x.1, .int .i64 x.2, undef, undef, undef, undef], defers := [] }) ?assign ?body ?done ?stop
  case assign =>
    intro l x W K hK
    gi_wp2
    exact hK
  case body =>
    rintro l pre x W ⟨⟨hp, hb0, hb1, hb2⟩, hB⟩ _
    have k0 := hb0.1
    obtain ⟨k1, f1⟩ := id hb1
    obtain ⟨k2, f2⟩ := id hb2
    have H0 := Lib.hid hb0
    have HH := Lib.hid (And.intro hp (And.intro hb1 (And.intro hb2 hB)))
    clear hp hb0 hb1 hb2 hB
    by_cases hx : (x.1 : Int) = c
    · have hxb : ((x.1 : Int) == c) = true := by simpa using hx
      have HX := Lib.hid hx
      clear hx
      gi_wp2
      exact ⟨(KeepsOthers.setCell _ _ _).trans (KeepsOthers.setCell _ _ _), ⟨rfl, ⟨pre, x, rfl, HX.out, (HH.out.2.1.set _).other _ (by omega)⟩, (HH.out.2.2.1.other _ (by omega)).set _⟩, (HH.out.2.2.2.setCell (p := ⟨w.heap.size + 1, 0, none⟩) (by simp) _).setCell (p := ⟨w.heap.size + 1 + 1, 0, none⟩) (by simp; omega) _⟩
    · have hxb : ((x.1 : Int) == c) = false := by simpa using hx
      have HX := Lib.hid hx
      clear hx
      gi_wp2
      exact ⟨KeepsOthers.refl _, KeepsWalks.refl _, ⟨fun y hy => (List.mem_append.1 hy).elim (HH.out.1 y) (fun e => by rw [List.mem_singleton.1 e]; exact HX.out), H0.out, HH.out.2.1, HH.out.2.2.1⟩, HH.out.2.2.2⟩
  case done =>
    rintro D ys W hD rfl ⟨⟨hp, hb0, hb1, hb2⟩, hB⟩ hK
    obtain ⟨k1, f1⟩ := id hb1
    obtain ⟨k2, f2⟩ := id hb2
    have HH := Lib.hid (And.intro hp (And.intro hb1 (And.intro hb2 hB)))
    clear hp hb1 hb2 hB
    gi_wp2
    have hK' := ((KeepsOthers.setCell W ⟨w.heap.size + 1, 0, none⟩ (.int .i64 0)).trans (KeepsOthers.setCell _ ⟨w.heap.size + 1 + 1, 0, none⟩ (.int .i64 2))).same D _ hK rfl
    refine ⟨by simp, .inl ⟨_, _, rfl, run_takeDeferred hK', ?_⟩⟩
    have r1 := (((HH.out.2.1.set (.int .i64 0)).other (.int .i64 2) (show w.heap.size + 1 ≠ w.heap.size + 1 + 1 by omega)).put (o' := .deferred none) hK' rfl).1
    have r2 := (((HH.out.2.2.1.other (.int .i64 0) (show w.heap.size + 1 + 1 ≠ w.heap.size + 1 by omega)).set (.int .i64 2)).put (o' := .deferred none) hK' rfl).1
    have hRe : R = (0, 2) := by rw [← HR.out]; exact sizeRes_no HH.out.1
    subst hRe
    refine ⟨.tuple #[.int .i64 0, .int .i64 2], ?_, rfl, ((HH.out.2.2.2.setCell (p := ⟨w.heap.size + 1, 0, none⟩) (by simp) _).setCell (p := ⟨w.heap.size + 1 + 1, 0, none⟩) (by simp; omega) _).trans (belowK_b (w := w) (Nat.le_refl _) _ D _ _ (by simp at hD; omega) hK' rfl rfl)⟩
    simp [results, Tryz.f182, go_sem, r1, r2]
  case stop =>
    rintro D cd pre W hD ⟨k, hk, rfl⟩ ⟨⟨rfl, ⟨p, x, hpx, hx, hb1⟩, hb2⟩, hB⟩ hK
    obtain ⟨_, hxe⟩ := szL_last hpx.symm
    have HH := Lib.hid hB
    have hRe : R = (x.2, 0) := by rw [← HR.out, ← hx, hxe]; exact sizeRes_yes hk
    have r1 := (hb1.put (o' := .deferred none) hK rfl).1
    have r2 := (hb2.put (o' := .deferred none) hK rfl).1
    clear hpx hx hxe hb1 hb2 hB
    subst hRe
    gi_wp2
    refine ⟨by simp, .inl ⟨_, _, rfl, run_takeDeferred hK, ?_⟩⟩
    refine ⟨.tuple #[.int .i64 x.2, .int .i64 0], ?_, rfl, HH.out.trans (belowK_b (w := w) (Nat.le_refl _) W D _ _ (by simp at hD; omega) hK rfl rfl)⟩
    simp [results, Tryz.f182, go_sem, r1, r2]
def slotsRes (c : Int) : Nat × Nat := if 0 ≤ c ∧ c < 8 then (classSlots c.toNat, 0) else (0, 2)
theorem class_slots (c : Int) (w : World) :
    Calls Tryz.prog 133 #[.int .i64 c] w fun e w' => e = .returned (.tuple #[.int .i64 (slotsRes c).1, .int .i64 (slotsRes c).2]) ∧ Below w.heap.size w w' := by
  have hs := class_size c w
  by_cases h : 0 ≤ c ∧ c < 8
  · obtain ⟨k, rfl⟩ := Int.eq_ofNat_of_zero_le h.1
    have hk : k < 8 := by omega
    have h1 : sizeRes k = (classSize k, 0) := by unfold sizeRes; rw [if_pos h]; simp
    have h2 : slotsRes k = (62 / classSize k, 0) := by
      unfold slotsRes classSlots
      rw [if_pos h, Int.toNat_natCast, if_pos hk]
      have : ∀ k, k < 8 → sizes.getD k 1 = classSize k := by decide
      rw [this k hk]
    have h3 : 2 ≤ classSize k ∧ classSize k ≤ 28 := by
      have : ∀ k, k < 8 → 2 ≤ classSize k ∧ classSize k ≤ 28 := by decide
      exact this k hk
    rw [h1] at hs
    rw [h2]
    have HS := Lib.hid hs
    clear hs h1 h2 h
    generalize classSize k = z at *
    obtain ⟨h4, h5⟩ := h3
    go_enter Tryz.func133, Tryz.ntmps133
    go_wp2_with fail
    refine HS.out.mono ?_
    rintro e w1 ⟨rfl, hb⟩
    go_wp2_with fail
    go_ret2
    exact ⟨rfl, hb⟩
  · have h1 : sizeRes c = (0, 2) := by unfold sizeRes; rw [if_neg h]
    have h2 : slotsRes c = (0, 2) := by unfold slotsRes; rw [if_neg h]
    rw [h1] at hs
    rw [h2]
    have HS := Lib.hid hs
    clear hs h1 h2 h
    go_enter Tryz.func133, Tryz.ntmps133
    go_wp2_with fail
    refine HS.out.mono ?_
    rintro e w1 ⟨rfl, hb⟩
    go_wp2_with fail
    go_ret2
    exact ⟨rfl, hb⟩
end Go.Proofs.YtepdkbmnkjfcpaaGreatDoor
namespace Go.Proofs.YtepdkbmnkjfcpaaGreatDoor
open Go.RowKit Go.BigFrame Lf
open Go.Shelf
attribute [local go_sem] Oper.semAt_some
def ofRes (x : Int) : Nat × Bool × Nat :=
  if x < 1 ∨ 4000 < x then (0, false, 2) else match classOf x.toNat with | some c => (c, true, 0) | none => (0, false, 0)
theorem ofRes_out {x : Int} (h : x < 1 ∨ 4000 < x) : ofRes x = (0, false, 2) := by unfold ofRes; rw [if_pos h]
theorem szs_get : ∀ k, k < 8 → szs k = sizes.getD k 0 := by decide
theorem classOf_some {n k : Nat} (hk : k < 8) (h1 : n ≤ szs k) (h2 : ∀ i, i < k → szs i < n) : classOf n = some k := by
  unfold classOf
  rw [List.find?_range_eq_some]
  refine ⟨by rw [← szs_get k hk]; simpa using h1, by simpa using hk, fun j hj => ?_⟩
  have := h2 j hj
  rw [← szs_get j (by omega)]
  simp
  omega
theorem classOf_none {n : Nat} (h : ∀ i, i < 8 → szs i < n) : classOf n = none := by
  unfold classOf
  rw [List.find?_eq_none]
  intro j hj
  have hj' : j < 8 := by simpa using hj
  have := h j hj'
  rw [← szs_get j hj']
  simp
  omega
theorem ofRes_large {x : Int} (h1 : 1 ≤ x) (h2 : x ≤ 4000) (h : ∀ y ∈ szL 8, (y.2 : Int) < x) : ofRes x = (0, false, 0) := by
  have : classOf x.toNat = none := classOf_none fun i hi => by
    have := h (i, szs i) (List.mem_map.2 ⟨i, by simpa using hi, rfl⟩)
    simp only at this
    omega
  unfold ofRes
  rw [if_neg (by omega), this]
theorem ofRes_small {x : Int} (h1 : 1 ≤ x) (h2 : x ≤ 4000) {k : Nat} (hk : k < 8) (h : ∀ y ∈ szL k, (y.2 : Int) < x) (h3 : x ≤ szs k) : ofRes x = (k, true, 0) := by
  have : classOf x.toNat = some k := classOf_some hk (by omega) fun i hi => by
    have := h (i, szs i) (List.mem_map.2 ⟨i, by simpa using hi, rfl⟩)
    simp only at this
    omega
  unfold ofRes
  rw [if_neg (by omega), this]
def Less (x : Int) (pre : List (Nat × Nat)) : Prop := ∀ y ∈ pre, (y.2 : Int) < x
theorem class_of_in (x : Int) (w : World) (hx1 : 1 ≤ x) (hx2 : x ≤ 4000) :
    Calls Tryz.prog 171 #[.int .i64 x] w fun e w' => e = .returned (.tuple #[.int .i64 (ofRes x).1, .bool (ofRes x).2.1, .int .i64 (ofRes x).2.2]) ∧ Below w.heap.size w w' := by
  refine (callsIn_wide (n := 4)).1 ?_
  have h1 : 1 ≤ 4 := by omega
  have hS : Fence.wide.fn 217 := trivial
  have hs1 : ∀ W, CallsIn Fence.wide 3 Tryz.prog 217 #[] W _ := fun W => callsIn_wide.2 (sizes_any W)
  obtain ⟨R, hR⟩ : ∃ R, ofRes x = R := ⟨_, rfl⟩
  rw [hR]
  have HR := Lib.hid hR
  clear hR
  have hd1 : decide (x < 1) = false := by simp; omega
  have hd2 : decide (4000 < x) = false := by simp; omega
  refine callsIn_of_wp_marks Tryz.func171 rfl trivial ?_ rfl
  simp only [Tryz.ntmps171, List.size_toArray, List.length_cons, List.length_nil, Nat.reduceAdd, Nat.reduceSub, Array.replicate_succ, Array.replicate_zero, List.push_toArray, List.append_toArray, List.nil_append, List.cons_append]
  gi_wp2_with (gi_at_call 217; refine (hs1 _).mono ?_; rintro e w' ⟨rfl, rfl⟩)
  have c0 := Bx.new w (.int .i64 x) 3
  have c1 := Bx.new (w.alloc (.cells #[.int .i64 x] 3)) (.int .i64 0) 3
  have c2 := Bx.new ((w.alloc (.cells #[.int .i64 x] 3)).alloc (.cells #[.int .i64 0] 3)) (.bool false) 4
  have c3 := Bx.new (((w.alloc (.cells #[.int .i64 x] 3)).alloc (.cells #[.int .i64 0] 3)).alloc (.cells #[.bool false] 4)) (.int .i64 0) 26
  simp only [World.size_alloc] at c1 c2 c3
  have hB0 : Below w.heap.size w ((((w.alloc (.cells #[.int .i64 x] 3)).alloc (.cells #[.int .i64 0] 3)).alloc (.cells #[.bool false] 4)).alloc (.cells #[.int .i64 0] 26)) := ((((Below.refl _ w).alloc (Nat.le_refl _) _).alloc (by simp) _).alloc (by simp; omega) _).alloc (by simp; omega) _
  refine wpIn_rangeFunc_ownF rfl h1 (gf := 246) (lb := #[]) rfl trivial (enters_of Tryz.func246 (by kernel_rfl) rfl)
    (sizes_stops Fence.wide (4 - 1) trivial rfl (by omega) _) walksK_t walksK_b (Below.refl _ _) (fun _ => rfl)
    (fun pre W => (Less x pre ∧ Bx W w.heap.size (.int .i64 x) ∧ Bx W (w.heap.size + 1) (.int .i64 0) ∧ Bx W (w.heap.size + 1 + 1) (.bool false) ∧ Bx W (w.heap.size + 1 + 1 + 1) (.int .i64 0)) ∧ Below w.heap.size w W)
    (fun cd pre W => (cd = .ret ∧ (∃ p y, pre = p ++ [y] ∧ Less x p ∧ x ≤ (y.2 : Int) ∧ Bx W (w.heap.size + 1) (.int .i64 y.1)) ∧ Bx W (w.heap.size + 1 + 1) (.bool true) ∧ Bx W (w.heap.size + 1 + 1 + 1) (.int .i64 0)) ∧ Below w.heap.size w W)
    (OwnFrom.and (Own.from (fun s A B row hs hg hr => ⟨hs.1, hs.2.1.kept hg hr, hs.2.2.1.kept hg hr, hs.2.2.2.1.kept hg hr, hs.2.2.2.2.kept hg hr⟩) _) (ownFrom_below (Nat.le_refl _) (by simp; omega)))
    (fun cd => OwnFrom.and (Own.from (fun s A B row hs hg hr => ⟨hs.1, (let ⟨p, y, k1, k2, k3, k4⟩ := hs.2.1; ⟨p, y, k1, k2, k3, k4.kept hg hr⟩), hs.2.2.1.kept hg hr, hs.2.2.2.kept hg hr⟩) _) (ownFrom_below (Nat.le_refl _) (by simp; omega)))
    ⟨⟨fun y hy => absurd hy (by simp), ((c0.alloc _).alloc _).alloc _, (c1.alloc _).alloc _, c2.alloc _, c3⟩, hB0⟩
    (fun y => { tmps := #[.int .i64 x, .pointer (some ⟨w.heap.size, 0, none⟩), .pointer (some ⟨w.heap.size + 1, 0, none⟩), .pointer (some ⟨w.heap.size + 1 + 1, 0, none⟩), .pointer (some ⟨w.heap.size + 1 + 1 + 1, 0, none⟩), .int .i64 y.1, .int .i64 y.2, .int .i64 x, .bool false, .bool false, .int .i64 x, .bool false, .bool false, .func (.func 246) #[] #[], .int .i64 y.1, .int .i64 y.2, undef, undef, undef, undef], defers := [] }) ?assign ?body ?done ?stop
  case assign =>
    intro l y W K hK
    gi_wp2
    exact hK
  case body =>
    rintro l pre y W ⟨⟨hp, hb0, hb1, hb2, hb3⟩, hB⟩ _
    have k0 := hb0.1
    obtain ⟨k1, f1⟩ := id hb1
    obtain ⟨k2, f2⟩ := id hb2
    obtain ⟨k3, f3⟩ := id hb3
    have H0 := Lib.hid hb0
    have HH := Lib.hid (And.intro hp (And.intro hb1 (And.intro hb2 (And.intro hb3 hB))))
    clear hp hb0 hb1 hb2 hb3 hB
    by_cases hx : x ≤ (y.2 : Int)
    · gi_wp2
      exact ⟨((KeepsOthers.setCell _ _ _).trans (KeepsOthers.setCell _ _ _)).trans (KeepsOthers.setCell _ _ _), ⟨rfl, ⟨pre, y, rfl, HH.out.1, hx, ((HH.out.2.1.set _).other _ (by omega)).other _ (by omega)⟩, ((HH.out.2.2.1.other _ (by omega)).set _).other _ (by omega), ((HH.out.2.2.2.1.other _ (by omega)).other _ (by omega)).set _⟩, ((HH.out.2.2.2.2.setCell (p := ⟨w.heap.size + 1, 0, none⟩) (by simp) _).setCell (p := ⟨w.heap.size + 1 + 1, 0, none⟩) (by simp; omega) _).setCell (p := ⟨w.heap.size + 1 + 1 + 1, 0, none⟩) (by simp; omega) _⟩
    · have HX := Lib.hid hx
      gi_wp2
      exact ⟨KeepsOthers.refl _, KeepsWalks.refl _, ⟨fun z hz => (List.mem_append.1 hz).elim (HH.out.1 z) (fun e => by rw [List.mem_singleton.1 e]; have := HX.out; omega), H0.out, HH.out.2.1, HH.out.2.2.1, HH.out.2.2.2.1⟩, HH.out.2.2.2.2⟩
  case done =>
    rintro D ys W hD rfl ⟨⟨hp, hb0, hb1, hb2, hb3⟩, hB⟩ hK
    obtain ⟨k1, f1⟩ := id hb1
    obtain ⟨k2, f2⟩ := id hb2
    obtain ⟨k3, f3⟩ := id hb3
    have HH := Lib.hid (And.intro hp (And.intro hb1 (And.intro hb2 (And.intro hb3 hB))))
    clear hp hb1 hb2 hb3 hB
    gi_wp2
    have hK' := (((KeepsOthers.setCell W ⟨w.heap.size + 1, 0, none⟩ (.int .i64 0)).trans (KeepsOthers.setCell _ ⟨w.heap.size + 1 + 1, 0, none⟩ (.bool false))).trans (KeepsOthers.setCell _ ⟨w.heap.size + 1 + 1 + 1, 0, none⟩ (.int .i64 0))).same D _ hK rfl
    refine ⟨by simp, .inl ⟨_, _, rfl, run_takeDeferred hK', ?_⟩⟩
    have r1 := ((((HH.out.2.1.set (.int .i64 0)).other (.bool false) (show w.heap.size + 1 ≠ w.heap.size + 1 + 1 by omega)).other (.int .i64 0) (show w.heap.size + 1 ≠ w.heap.size + 1 + 1 + 1 by omega)).put (o' := .deferred none) hK' rfl).1
    have r2 := ((((HH.out.2.2.1.other (.int .i64 0) (show w.heap.size + 1 + 1 ≠ w.heap.size + 1 by omega)).set (.bool false)).other (.int .i64 0) (show w.heap.size + 1 + 1 ≠ w.heap.size + 1 + 1 + 1 by omega)).put (o' := .deferred none) hK' rfl).1
    have r3 := ((((HH.out.2.2.2.1.other (.int .i64 0) (show w.heap.size + 1 + 1 + 1 ≠ w.heap.size + 1 by omega)).other (.bool false) (show w.heap.size + 1 + 1 + 1 ≠ w.heap.size + 1 + 1 by omega)).set (.int .i64 0)).put (o' := .deferred none) hK' rfl).1
    have hRe : R = (0, false, 0) := by rw [← HR.out]; exact ofRes_large hx1 hx2 HH.out.1
    subst hRe
    refine ⟨.tuple #[.int .i64 0, .bool false, .int .i64 0], ?_, rfl, (((HH.out.2.2.2.2.setCell (p := ⟨w.heap.size + 1, 0, none⟩) (by simp) _).setCell (p := ⟨w.heap.size + 1 + 1, 0, none⟩) (by simp; omega) _).setCell (p := ⟨w.heap.size + 1 + 1 + 1, 0, none⟩) (by simp; omega) _).trans (belowK_b (w := w) (Nat.le_refl _) _ D _ _ (by simp at hD; omega) hK' rfl rfl)⟩
    simp [results, Tryz.f171, go_sem, r1, r2, r3]
  case stop =>
    rintro D cd pre W hD ⟨k, hk, rfl⟩ ⟨⟨rfl, ⟨p, y, hpx, hp, hx, hb1⟩, hb2, hb3⟩, hB⟩ hK
    obtain ⟨hpe, hxe⟩ := szL_last hpx.symm
    have HH := Lib.hid hB
    have hRe : R = (y.1, true, 0) := by rw [← HR.out]; rw [hpe] at hp; rw [hxe] at hx ⊢; exact ofRes_small hx1 hx2 hk hp hx
    have r1 := (hb1.put (o' := .deferred none) hK rfl).1
    have r2 := (hb2.put (o' := .deferred none) hK rfl).1
    have r3 := (hb3.put (o' := .deferred none) hK rfl).1
    clear hpx hx hxe hpe hp hb1 hb2 hb3 hB
    subst hRe
    gi_wp2
    refine ⟨by simp, .inl ⟨_, _, rfl, run_takeDeferred hK, ?_⟩⟩
    refine ⟨.tuple #[.int .i64 y.1, .bool true, .int .i64 0], ?_, rfl, HH.out.trans (belowK_b (w := w) (Nat.le_refl _) W D _ _ (by simp at hD; omega) hK rfl rfl)⟩
    simp [results, Tryz.f171, go_sem, r1, r2, r3]
end Go.Proofs.YtepdkbmnkjfcpaaGreatDoor
