/- Short words for what stands often: plain. -/
import Derived.Test.YtpljannolpapgaaGreatDoorProg
import Derived.IntWalk
import Derived.Lib.Hide
import Derived.Calls
import Derived.CallsIn
import Derived.RangeFuncBound
import Derived.RangeFuncOwn
import Derived.RangeFuncWrites
import Derived.Maps.AppendAt
import Derived.Defers
import Derived.Deep.RegionHeld
set_option maxRecDepth 100000
abbrev Go.RowKit.Hid.O:=@Go.RowKit.Hid.out
abbrev Go.Shut.O:=@Go.Shut.out
abbrev Eq.T:=@Eq.trans
abbrev Iff.T:=@Iff.trans
abbrev Go.RowKit.Below.T:=@Go.RowKit.Below.trans
abbrev Go.KeepsOthers.T:=@Go.KeepsOthers.trans
abbrev Go.KeepsFrom.T:=@Go.KeepsFrom.trans
abbrev Go.World.grownBy.T:=@Go.World.grownBy.trans
abbrev List.Perm.T:=@List.Perm.trans
abbrev List.IsPrefix.T:=@List.IsPrefix.trans
abbrev List.Sublist.T:=@List.Sublist.trans
abbrev Go.RowKit.Below.M:=@Go.RowKit.Below.mono
abbrev Go.Calls.M:=@Go.Calls.mono
abbrev Go.CallsIn.M:=@Go.CallsIn.mono
abbrev Go.CallsD.M:=@Go.CallsD.mono
abbrev Go.RoundIn.M:=@Go.RoundIn.mono
abbrev Go.YieldAt.M:=@Go.YieldAt.mono
abbrev Eq.S:=@Eq.symm
abbrev Ne.S:=@Ne.symm
namespace Go.Proofs
open Go.RowKit
abbrev x_(b o:Nat):Addr:=⟨b,o,none⟩
abbrev y_(b:Nat):Addr:=⟨b,0,none⟩
abbrev D_(w:World):=Below w.heap.size w
theorem o_{P:Prop}(h:P:=by omega):P:=h
theorem s_{P:Prop}(h:P:=by simp):P:=h
theorem k_{P:Prop}(h:P:=by kernel_rfl):P:=h
theorem d_{P:Prop}(h:P:=by decide):P:=h
theorem m_{P:Prop}(h:P:=by simp;omega):P:=h
theorem b_{a b c:World}(h:D_ a b)(k:D_ b c):D_ a c:=h.T (k.M h.size)
theorem c_ (w:World)(o:Obj):D_ w (w.alloc o):=(Below.refl _ w).alloc (Nat.le_refl _) o
abbrev n_:Value:=.slice none 0 0
end Go.Proofs
namespace Go.Proofs.YtpljannolpapgaaGreatDoor
open Go.RowKit
abbrev aa := @Below.refl
abbrev ab := @Or.inl
abbrev ae := @Or.inr
abbrev af := @List.getElem?_eq_getElem
abbrev ag := @List.length_append
abbrev ah := @List.mem_cons
abbrev aj := @List.length_cons
abbrev ak := @List.mem_cons_of_mem
abbrev am := @List.length_map
abbrev ao := @List.getElem_mem
abbrev aq := @List.mem_append
abbrev av := @List.mem_cons_self
abbrev aw := @List.take_succ_eq_append_getElem
abbrev ax := @IntWalk.i64_in
abbrev ay := @List.getD_eq_getElem?_getD
abbrev az := @List.mem_map
abbrev aA := @List.mem_append_right
abbrev aB := @Nat.lt_of_lt_of_le
abbrev aC := @List.getElem?_eq_some_iff
abbrev aD := @List.mem_append_left
abbrev aE := @List.mem_singleton
abbrev aF := @List.nodup_append
abbrev aG := @Option.map_eq_some_iff
abbrev aH := @Nat.le_trans
abbrev aI := @List.nodup_cons
abbrev aJ := @List.cons_append
abbrev aK := @List.length_take
abbrev aL := @List.length_nil
abbrev aM := @Bool.and_eq_true
abbrev aN := @List.map_append
abbrev aO := @Array.replicate_succ
abbrev aP := @Array.replicate_zero
abbrev aQ := @List.take_of_length_le
abbrev aR := @List.append_toArray
abbrev aS := @List.size_toArray
abbrev aT := @List.push_toArray
abbrev aU := @List.take_append_drop
abbrev aV := @List.append_assoc
abbrev aW := @List.append_nil
abbrev aX := @List.nil_append
abbrev aY := @List.getElem?_eq_none
abbrev aZ := @Nat.lt_succ_self
abbrev bg := @List.map_congr_left
abbrev bi := @List.map_cons
abbrev bp := @List.length_singleton
abbrev bw := @List.mem_range
abbrev bz := @Nat.zero_add
abbrev bA := @List.length_set
abbrev bB := @List.mem_of_mem_drop
abbrev bC := @List.pairwise_cons
abbrev bD := @List.mem_of_mem_take
abbrev bE := @List.pairwise_append
abbrev bG := @List.getElem_map
abbrev bH := @Option.ne_none_iff_exists'
abbrev bI := @List.length_eq_zero_iff
abbrev bJ := @List.drop_eq_getElem_cons
abbrev bK := @List.mem_iff_getElem
abbrev bM := @Array.getElem?_toList
abbrev bO := @List.getElem?_toArray
abbrev bP := @IntWalk.u64_in
abbrev bQ := @List.getElem?_map
abbrev bS := @List.find?_eq_none
abbrev bT := @List.length_drop
abbrev bU := @List.getElem?_range
abbrev bW := @List.take_zero
abbrev bX := @List.not_mem_nil
abbrev bY := @Array.getElem?_eq_getElem
abbrev bZ := @List.drop_succ_cons
abbrev cg := @List.flatten_append
abbrev ci := @List.take_succ_cons
abbrev co := @List.flatMap_cons
abbrev ct := @List.countP_le_length
abbrev cy := @Below.heap_setCell
abbrev cz := @List.getElem?_cons_succ
abbrev cB := @List.take_length
abbrev cC := @Nat.zero_le
abbrev cD := @List.getElem?_set_self
abbrev cE := @Nat.lt_or_ge
abbrev cI := @List.mem_of_find?_eq_some
abbrev cJ := @List.pairwise_iff_getElem
abbrev cL := @Below.heap_alloc
abbrev cM := @List.mem_flatten
abbrev cN := @Nat.eq_or_lt_of_le
abbrev cO := @Nat.lt_of_le_of_lt
abbrev cP := @List.getElem?_take_of_lt
abbrev cQ := @List.map_map
abbrev cR := @Nat.add_right_cancel_iff
abbrev cT := @List.getElem?_set_ne
abbrev cU := @Nat.pow_le_pow_right
abbrev cV := @Nat.shiftLeft_add_eq_or_of_lt
abbrev cW := @Int.toNat_natCast
abbrev cX := @Array.getElem?_eq_none
abbrev cY := @Nat.mul_lt_mul_of_pos_right
abbrev cZ := @Array.toList_setIfInBounds
abbrev c8 := @List.drop_zero
abbrev da := @List.getElem?_take
abbrev db := @List.contains_iff_mem
abbrev de := @List.set_eq_take_append_cons_drop
abbrev df := @List.mem_or_eq_of_mem_set
abbrev dg := @List.mem_of_getElem?
abbrev dh := @List.find?_range_eq_some
abbrev di := @List.length_pos_iff
abbrev dj := @List.exists_cons_of_length_pos
abbrev dl := @List.nodup_nil
abbrev dm := @List.drop_eq_nil_of_le
abbrev dq := @List.filter_eq_nil_iff
abbrev dr := @List.range_succ
abbrev dt := @Nat.testBit_two_pow_sub_succ
abbrev du := @List.map_take
abbrev dw := @Decidable.not_not
abbrev dx := @List.ext_getElem?
abbrev dy := @List.flatten_cons
abbrev dz := @Nat.le_succ
abbrev dA := @Nat.mod_two_eq_zero_or_one
abbrev dB := @Nat.mul_le_mul_right
abbrev dC := @List.ext_getElem
abbrev dD := @List.flatMap_append
abbrev dE := @Nat.add_assoc
abbrev dF := @List.mem_filter
abbrev dG := @List.sum_append
abbrev dH := @Bool.false_eq_true
abbrev dI := @List.count_eq_zero
abbrev dJ := @List.map_id
abbrev dK := @Int.lt_trichotomy
abbrev dL := @List.length_range
abbrev dM := @List.pairwise_map
abbrev dN := @UInt8.not_lt
abbrev Xu (n : Int) : Value := .int .u64 n
abbrev Xi (n : Int) : Value := .int .i64 n
abbrev Xa (a : Int) (b : Int) (c : Int) (d : Int) (e : Int) (f : Int) (g : Int) : Obj := .cells #[Xu a, Xu b, Xu c, Xu d, Xu e, Xu f, Xu g] 280
abbrev Xb (a : Int) (b : Int) (c : Int) (d : Int) (e : Int) (f : Int) : Obj := .cells #[Xu a, Xu b, Xu c, Xu d, Xu e, Xu f] 139
abbrev Xc (a : Nat) (b : Int) : Obj := .cells #[.pointer (some ⟨a, 0, none⟩), Xi b] 145
abbrev Xd (a : Nat) (b : Bool) : Obj := .cells #[.pointer (some ⟨a, 0, none⟩), .bool b] 284
abbrev Xe (a : Int) (b : Int) : Obj := .cells #[Xu a, Xu b] 104
abbrev Xf (a : Int) : Obj := .cells #[Xu a] 61
abbrev Xg (a : Nat) : Obj := .cells #[.pointer (some ⟨a, 0, none⟩)] 26
abbrev Xh (a : Int) : Obj := .cells #[Xi a] 3
abbrev Xj (a : Int) (b : Int) (c : Int) : Obj := .cells #[Xi a, Xi b, Xu c] 188
abbrev Xk (a : Nat) (b : Int) : Obj := .cells #[.pointer (some ⟨a, 0, none⟩), Xi b] 162
abbrev Xl (a : Int) : Obj := .cells #[.slice none 0 0, .slice none 0 0, .slice none 0 0, Xu a] 215
abbrev Xm (a : Nat) : Obj := .cells #[.pointer (some ⟨a, 0, none⟩)] 90
abbrev Xn (a : List UInt8) (b : List UInt8) : Obj := .cells #[.string ⟨a.toArray⟩, .string ⟨b.toArray⟩] 40
theorem Ih {n : Nat} : n <= n := Nat.le_refl n
theorem If {p : Prop} (h : p) : Hid p := h
theorem ic (A : World -> Prop) : ∃ I : World -> Prop, (∀ w', I w' -> A w')/\(∀ w', A w' -> I w') := ⟨A, fun _ h => h, fun _ h => h⟩
theorem Ii {α : Sort _} (a : α) : ∃ k, a = k := ⟨a, rfl⟩
theorem Jc {P : Program} {f : FuncId} {a : Array Value} {w : World} {r : Ending} {Q : Ending -> World -> Prop} {R : World -> Prop} {X : World} (h : Calls P f a w fun e w' => e = r/\R w') (k : Q r X) (q : ∀ w', R w' -> w' = X := by intro w' h; first | exact h | exact h.S) : Calls P f a w Q := h.M fun _ w' ⟨h1, h2⟩ => h1 ▸ (q w' h2).S ▸ k
theorem dR {P : Program} {f : FuncId} {a : Array Value} {w : World} {r : Ending} {R : World -> Prop} {Q : Ending -> World -> Prop} (h : Calls P f a w fun e w' => e = r/\R w') (k : ∀ w', R w' -> Q r w') : Calls P f a w Q := h.M fun _ w' ⟨h1, h2⟩ => h1 ▸ k w' h2
abbrev Ct (n : FuncId) (a : Array Value) (w : World) (R : Ending -> World -> Prop) : Prop := Calls Tryz.prog n a w R
abbrev Cb (n : FuncId) (a : Array Value) (w : World) (v : Value) : Prop := Calls Tryz.prog n a w fun e w' => e = .returned v/\D_ w w'
structure pA (A B : Prop) : Prop where
 a : A
 b : B
theorem pA.O {A B : Prop} (h : pA A B) : A/\B := ⟨h.a, h.b⟩
theorem kq2 {A B : Prop} (x0 : A) (x1 : B) : pA A B := ⟨x0, x1⟩
structure pB (A B C : Prop) : Prop where
 a : A
 b : B
 c : C
theorem pB.O {A B C : Prop} (h : pB A B C) : A/\B/\C := ⟨h.a, h.b, h.c⟩
theorem kq3 {A B C : Prop} (x0 : A) (x1 : B) (x2 : C) : pB A B C := ⟨x0, x1, x2⟩
structure pC (A B C D : Prop) : Prop where
 a : A
 b : B
 c : C
 d : D
theorem pC.O {A B C D : Prop} (h : pC A B C D) : A/\B/\C/\D := ⟨h.a, h.b, h.c, h.d⟩
theorem kq4 {A B C D : Prop} (x0 : A) (x1 : B) (x2 : C) (x3 : D) : pC A B C D := ⟨x0, x1, x2, x3⟩
structure pE (A B C D E : Prop) : Prop where
 a : A
 b : B
 c : C
 d : D
 e : E
theorem pE.O {A B C D E : Prop} (h : pE A B C D E) : A/\B/\C/\D/\E := ⟨h.a, h.b, h.c, h.d, h.e⟩
theorem kq5 {A B C D E : Prop} (x0 : A) (x1 : B) (x2 : C) (x3 : D) (x4 : E) : pE A B C D E := ⟨x0, x1, x2, x3, x4⟩
structure pF (A B C D E F : Prop) : Prop where
 a : A
 b : B
 c : C
 d : D
 e : E
 f : F
theorem pF.O {A B C D E F : Prop} (h : pF A B C D E F) : A/\B/\C/\D/\E/\F := ⟨h.a, h.b, h.c, h.d, h.e, h.f⟩
theorem kq6 {A B C D E F : Prop} (x0 : A) (x1 : B) (x2 : C) (x3 : D) (x4 : E) (x5 : F) : pF A B C D E F := ⟨x0, x1, x2, x3, x4, x5⟩
structure pG (A B C D E F G : Prop) : Prop where
 a : A
 b : B
 c : C
 d : D
 e : E
 f : F
 g : G
theorem pG.O {A B C D E F G : Prop} (h : pG A B C D E F G) : A/\B/\C/\D/\E/\F/\G := ⟨h.a, h.b, h.c, h.d, h.e, h.f, h.g⟩
theorem kq7 {A B C D E F G : Prop} (x0 : A) (x1 : B) (x2 : C) (x3 : D) (x4 : E) (x5 : F) (x6 : G) : pG A B C D E F G := ⟨x0, x1, x2, x3, x4, x5, x6⟩
structure pH (A B C D E F G H : Prop) : Prop where
 a : A
 b : B
 c : C
 d : D
 e : E
 f : F
 g : G
 h : H
theorem pH.O {A B C D E F G H : Prop} (h : pH A B C D E F G H) : A/\B/\C/\D/\E/\F/\G/\H := ⟨h.a, h.b, h.c, h.d, h.e, h.f, h.g, h.h⟩
theorem kq8 {A B C D E F G H : Prop} (x0 : A) (x1 : B) (x2 : C) (x3 : D) (x4 : E) (x5 : F) (x6 : G) (x7 : H) : pH A B C D E F G H := ⟨x0, x1, x2, x3, x4, x5, x6, x7⟩
structure pI (A B C D E F G H I : Prop) : Prop where
 a : A
 b : B
 c : C
 d : D
 e : E
 f : F
 g : G
 h : H
 i : I
theorem pI.O {A B C D E F G H I : Prop} (h : pI A B C D E F G H I) : A/\B/\C/\D/\E/\F/\G/\H/\I := ⟨h.a, h.b, h.c, h.d, h.e, h.f, h.g, h.h, h.i⟩
theorem kq9 {A B C D E F G H I : Prop} (x0 : A) (x1 : B) (x2 : C) (x3 : D) (x4 : E) (x5 : F) (x6 : G) (x7 : H) (x8 : I) : pI A B C D E F G H I := ⟨x0, x1, x2, x3, x4, x5, x6, x7, x8⟩
structure pw (A B C D E F G H I J : Prop) : Prop where
 a : A
 b : B
 c : C
 d : D
 e : E
 f : F
 g : G
 h : H
 i : I
 j : J
theorem pw.O {A B C D E F G H I J : Prop} (h : pw A B C D E F G H I J) : A/\B/\C/\D/\E/\F/\G/\H/\I/\J := ⟨h.a, h.b, h.c, h.d, h.e, h.f, h.g, h.h, h.i, h.j⟩
theorem kq10 {A B C D E F G H I J : Prop} (x0 : A) (x1 : B) (x2 : C) (x3 : D) (x4 : E) (x5 : F) (x6 : G) (x7 : H) (x8 : I) (x9 : J) : pw A B C D E F G H I J := ⟨x0, x1, x2, x3, x4, x5, x6, x7, x8, x9⟩
structure oo (A B C D E F G H I J K : Prop) : Prop where
 a : A
 b : B
 c : C
 d : D
 e : E
 f : F
 g : G
 h : H
 i : I
 j : J
 k : K
theorem oo.O {A B C D E F G H I J K : Prop} (h : oo A B C D E F G H I J K) : A/\B/\C/\D/\E/\F/\G/\H/\I/\J/\K := ⟨h.a, h.b, h.c, h.d, h.e, h.f, h.g, h.h, h.i, h.j, h.k⟩
theorem kq11 {A B C D E F G H I J K : Prop} (x0 : A) (x1 : B) (x2 : C) (x3 : D) (x4 : E) (x5 : F) (x6 : G) (x7 : H) (x8 : I) (x9 : J) (x10 : K) : oo A B C D E F G H I J K := ⟨x0, x1, x2, x3, x4, x5, x6, x7, x8, x9, x10⟩
structure pz (A B C D E F G H I J K L : Prop) : Prop where
 a : A
 b : B
 c : C
 d : D
 e : E
 f : F
 g : G
 h : H
 i : I
 j : J
 k : K
 l : L
theorem pz.O {A B C D E F G H I J K L : Prop} (h : pz A B C D E F G H I J K L) : A/\B/\C/\D/\E/\F/\G/\H/\I/\J/\K/\L := ⟨h.a, h.b, h.c, h.d, h.e, h.f, h.g, h.h, h.i, h.j, h.k, h.l⟩
theorem kq12 {A B C D E F G H I J K L : Prop} (x0 : A) (x1 : B) (x2 : C) (x3 : D) (x4 : E) (x5 : F) (x6 : G) (x7 : H) (x8 : I) (x9 : J) (x10 : K) (x11 : L) : pz A B C D E F G H I J K L := ⟨x0, x1, x2, x3, x4, x5, x6, x7, x8, x9, x10, x11⟩
structure Jd (A B C D E F G H I J K L M : Prop) : Prop where
 a : A
 b : B
 c : C
 d : D
 e : E
 f : F
 g : G
 h : H
 i : I
 j : J
 k : K
 l : L
 m : M
theorem Jd.O {A B C D E F G H I J K L M : Prop} (h : Jd A B C D E F G H I J K L M) : A/\B/\C/\D/\E/\F/\G/\H/\I/\J/\K/\L/\M := ⟨h.a, h.b, h.c, h.d, h.e, h.f, h.g, h.h, h.i, h.j, h.k, h.l, h.m⟩
theorem kq13 {A B C D E F G H I J K L M : Prop} (x0 : A) (x1 : B) (x2 : C) (x3 : D) (x4 : E) (x5 : F) (x6 : G) (x7 : H) (x8 : I) (x9 : J) (x10 : K) (x11 : L) (x12 : M) : Jd A B C D E F G H I J K L M := ⟨x0, x1, x2, x3, x4, x5, x6, x7, x8, x9, x10, x11, x12⟩
structure Je (A B C D E F G H I J K L M N : Prop) : Prop where
 a : A
 b : B
 c : C
 d : D
 e : E
 f : F
 g : G
 h : H
 i : I
 j : J
 k : K
 l : L
 m : M
 n : N
theorem Je.O {A B C D E F G H I J K L M N : Prop} (h : Je A B C D E F G H I J K L M N) : A/\B/\C/\D/\E/\F/\G/\H/\I/\J/\K/\L/\M/\N := ⟨h.a, h.b, h.c, h.d, h.e, h.f, h.g, h.h, h.i, h.j, h.k, h.l, h.m, h.n⟩
theorem kq14 {A B C D E F G H I J K L M N : Prop} (x0 : A) (x1 : B) (x2 : C) (x3 : D) (x4 : E) (x5 : F) (x6 : G) (x7 : H) (x8 : I) (x9 : J) (x10 : K) (x11 : L) (x12 : M) (x13 : N) : Je A B C D E F G H I J K L M N := ⟨x0, x1, x2, x3, x4, x5, x6, x7, x8, x9, x10, x11, x12, x13⟩
theorem gl {α : Type} {a : Array α} {i : Nat} {v : α} (h : a[i]? = some v) : i < a.size := (Array.getElem?_eq_some_iff.1 h).1
theorem pu : (∀ (a : Act) (v : Value), a.put none v = a)/\(∀ (a : Act) (d : Tmp) (v : Value), a.put (some d) v = { a with tmps := a.tmps.setIfInBounds d v })/\(∀ (l : List Value) (i : Nat) (v : Value), l.toArray.setIfInBounds i v = (l.set i v).toArray)/\(∀ (x : Value) (l : List Value) (v : Value), (x :: l).set 0 v = v :: l)/\(∀ (x : Value) (l : List Value) (n : Nat) (v : Value), (x :: l).set (n + 1) v = x :: l.set n v) := ⟨fun _ _ => rfl, fun _ _ _ => rfl, fun _ _ _ => List.setIfInBounds_toArray .., fun _ _ _ => rfl, fun _ _ _ _ => rfl⟩
