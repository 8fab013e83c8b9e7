/- Short words for what stands often: plain. -/
import Derived.Test.YtpljannolpapgaaGreatDoorProg
import Derived.IntWalk
import Derived.Lib.Hide
import Derived.Calls
set_option maxRecDepth 100000
namespace Go.Proofs.YtpljannolpapgaaGreatDoor
open Go.RowKit
abbrev aa := @Or.inl
abbrev ab := @Below.refl
abbrev ae := @Or.inr
abbrev af := @List.getElem?_eq_getElem
abbrev ag := @List.mem_cons
abbrev ah := @List.mem_cons_of_mem
abbrev aj := @List.mem_append
abbrev ak := @List.length_cons
abbrev am := @List.getD_eq_getElem?_getD
abbrev ao := @List.length_map
abbrev aq := @List.mem_cons_self
abbrev av := @List.nodup_append
abbrev aw := @List.mem_append_right
abbrev ax := @List.mem_append_left
abbrev ay := @List.length_take
abbrev az := @List.getElem?_eq_some_iff
abbrev aA := @List.mem_map
abbrev aB := @IntWalk.i64_in
abbrev aC := @Option.map_eq_some_iff
abbrev aD := @List.length_append
abbrev aE := @List.nodup_cons
abbrev aF := @List.getElem_mem
abbrev aG := @Nat.lt_succ_self
abbrev aH := @List.getElem?_eq_none
abbrev aI := @Bool.and_eq_true
abbrev aJ := @List.map_append
abbrev aK := @Nat.le_trans
abbrev aL := @List.map_cons
abbrev aM := @List.length_nil
abbrev aN := @List.length_drop
abbrev aO := @List.take_succ_eq_append_getElem
abbrev aP := @List.map_congr_left
abbrev aQ := @List.take_append_drop
abbrev aR := @List.cons_append
abbrev aS := @List.mem_singleton
abbrev aT := @List.pairwise_cons
abbrev aU := @List.drop_eq_getElem_cons
abbrev aV := @Array.replicate_succ
abbrev aW := @Array.replicate_zero
abbrev aX := @Nat.lt_of_lt_of_le
abbrev aY := @List.nil_append
abbrev aZ := @List.take_of_length_le
abbrev bg := @List.append_toArray
abbrev bi := @List.getElem?_map
abbrev bp := @List.size_toArray
abbrev bq := @List.mem_of_mem_drop
abbrev bw := @List.mem_range
abbrev bx := @List.push_toArray
abbrev bz := @List.getElem_map
abbrev bA := @List.pairwise_append
abbrev bB := @List.find?_eq_none
abbrev bC := @List.mem_of_mem_take
abbrev bD := @List.getElem?_cons_succ
abbrev bE := @List.length_set
abbrev bF := @Array.getElem?_toList
abbrev bG := @Nat.le_succ
abbrev bH := @List.getElem?_range
abbrev bI := @List.mem_of_find?_eq_some
abbrev bJ := @List.pairwise_iff_getElem
abbrev bK := @List.append_assoc
abbrev bM := @List.take_succ_cons
abbrev bO := @Nat.zero_add
abbrev bP := @List.append_nil
abbrev bQ := @List.getElem?_append_right
abbrev bS := @List.map_take
abbrev bT := @List.mem_iff_getElem
abbrev bU := @List.drop_eq_nil_of_le
abbrev bW := @Nat.lt_or_ge
abbrev bX := @List.drop_succ_cons
abbrev bY := @List.countP_le_length
abbrev bZ := @List.length_eq_zero_iff
abbrev ce := @List.mem_of_getElem?
abbrev cf := @List.getElem?_set_self
abbrev cg := @List.getElem?_toArray
abbrev ci := @List.getElem?_take_of_lt
abbrev co := @List.map_drop
abbrev cq := @List.getElem?_take
abbrev ct := @List.getElem?_set_ne
abbrev cu := @Nat.add_sub_cancel_left
abbrev cy := @Nat.pow_le_pow_right
abbrev cz := @Nat.zero_le
abbrev cB := @List.filter_eq_nil_iff
abbrev cC := @List.take_zero
abbrev cD := @List.flatten_append
abbrev cE := @List.find?_some
abbrev cF := @List.getElem?_append_left
abbrev cG := @List.mem_or_eq_of_mem_set
abbrev cH := @List.mem_flatten
abbrev cI := @List.map_map
abbrev cJ := @IntWalk.u64_in
abbrev cL := @List.drop_zero
abbrev cM := @Nat.shiftLeft_add_eq_or_of_lt
abbrev cN := @Int.lt_trichotomy
abbrev cO := @List.countP_cons_of_pos
abbrev cP := @List.flatten_cons
abbrev cQ := @Array.getElem?_eq_none
abbrev cR := @Nat.mul_lt_mul_of_pos_right
abbrev cT := @Array.toList_setIfInBounds
abbrev cU := @Bool.false_eq_true
abbrev cV := @Nat.lt_of_le_of_lt
abbrev cW := @List.contains_iff_mem
abbrev cX := @List.set_eq_take_append_cons_drop
abbrev cY := @List.mem_filter
abbrev cZ := @Decidable.not_not
abbrev c9 := @Int.toNat_natCast
abbrev da := @List.set_append_left
abbrev db := @Nat.mul_le_mul_right
abbrev dd := @List.find?_range_eq_some
abbrev de := @Nat.add_right_cancel_iff
abbrev df := @List.filter_eq_self
abbrev dg := @List.exists_cons_of_length_pos
abbrev dh := @List.lookup_cons
abbrev di := @Below.heap_setCell
abbrev dj := @UInt8.not_lt
abbrev dl := @Nat.min_eq_left
abbrev dm := @Nat.testBit_two_pow_sub_succ
abbrev dq := @Option.map_some
abbrev dr := @Nat.add_assoc
abbrev dt := @UInt8.lt_iff_toNat_lt
abbrev du := @List.ext_getElem?
abbrev dw := @List.getElem_take
abbrev dx := @Nat.mod_two_eq_zero_or_one
abbrev dy := @List.ext_getElem
abbrev dz := @List.mem_flatMap
abbrev dA := @Nat.sub_self
abbrev dB := @List.countP_eq_zero
abbrev dC := @List.flatMap_append
abbrev dD := @List.foldl_cons
abbrev dE := @List.range_succ
abbrev dF := @List.sum_append
abbrev dG := @List.filter_append
abbrev dH := @List.getElem?_drop
abbrev dI := @List.getElem_range
abbrev dJ := @List.getElem?_cons_zero
abbrev dK := @List.map_id
abbrev dL := @Bool.eq_false_iff
abbrev dM := @List.flatMap_cons
abbrev dN := @List.getElem_drop
abbrev dO := @List.map_set
abbrev dP := @List.nodup_nil
abbrev dQ := @List.pairwise_map
abbrev dR := @Nat.add_comm
abbrev dS := @Nat.le_of_eq
abbrev dT := @UInt8.le_antisymm
abbrev Xu (n : Int) : Value := .int .u64 n
abbrev Xi (n : Int) : Value := .int .i64 n
abbrev Xa (a : Int) (b : Int) (c : Int) (d : Int) (e : Int) (f : Int) (g : Int) : Obj := .cells #[Xu a, Xu b, Xu c, Xu d, Xu e, Xu f, Xu g] 280
abbrev Xb (a : Nat) (b : Bool) : Obj := .cells #[.pointer (some ⟨a, 0, none⟩), .bool b] 284
abbrev Xc (a : Nat) (b : Int) : Obj := .cells #[.pointer (some ⟨a, 0, none⟩), Xi b] 145
abbrev Xd (a : Int) (b : Int) (c : Int) (d : Int) (e : Int) (f : Int) : Obj := .cells #[Xu a, Xu b, Xu c, Xu d, Xu e, Xu f] 139
abbrev Xe (a : Int) (b : Int) : Obj := .cells #[Xu a, Xu b] 104
abbrev Xf (a : Int) : Obj := .cells #[Xu a] 61
abbrev Xg (a : Nat) (b : Int) : Obj := .cells #[.pointer (some ⟨a, 0, none⟩), Xi b] 162
abbrev Xh (a : Nat) : Obj := .cells #[.pointer (some ⟨a, 0, none⟩)] 26
abbrev Xj (a : List UInt8) (b : List UInt8) : Obj := .cells #[.string ⟨a.toArray⟩, .string ⟨b.toArray⟩] 40
abbrev Xk (a : Int) : Obj := .cells #[Xi a] 3
abbrev Xl (a : Int) : Obj := .cells #[.slice none 0 0, .slice none 0 0, .slice none 0 0, Xu a] 215
abbrev Xm (a : Int) (b : Int) (c : Int) : Obj := .cells #[Xi a, Xi b, Xu c] 188
abbrev Xn (a : Nat) (b : Int) : Obj := .cells #[.pointer (some ⟨a, 0, none⟩), Xi b, .slice none 0 0] 169
abbrev Xo (a : Nat) : Obj := .cells #[.pointer (some ⟨a, 0, none⟩)] 167
theorem Ih {n : Nat} : n <= n := Nat.le_refl n
theorem If {p : Prop} (h : p) : Hid p := h
theorem ic (A : World -> Prop) : ∃ I : World -> Prop, (∀ w', I w' -> A w')/\(∀ w', A w' -> I w') := ⟨A, fun _ h => h, fun _ h => h⟩
theorem Ii {α : Sort _} (a : α) : ∃ k, a = k := ⟨a, rfl⟩
theorem Jc {P : Program} {f : FuncId} {a : Array Value} {w : World} {r : Ending} {Q : Ending -> World -> Prop} {R : World -> Prop} {X : World} (h : Calls P f a w fun e w' => e = r/\R w') (k : Q r X) (q : ∀ w', R w' -> w' = X := by intro w' h; first | exact h | exact h.symm) : Calls P f a w Q := h.mono fun _ w' ⟨h1, h2⟩ => h1 ▸ (q w' h2).symm ▸ k
theorem wx {P : Program} {f : FuncId} {a : Array Value} {w : World} {r : Ending} {R : World -> Prop} {Q : Ending -> World -> Prop} (h : Calls P f a w fun e w' => e = r/\R w') (k : ∀ w', R w' -> Q r w') : Calls P f a w Q := h.mono fun _ w' ⟨h1, h2⟩ => h1 ▸ k w' h2
abbrev Ct (n : FuncId) (a : Array Value) (w : World) (R : Ending -> World -> Prop) : Prop := Calls Tryz.prog n a w R
abbrev Cb (n : FuncId) (a : Array Value) (w : World) (v : Value) : Prop := Calls Tryz.prog n a w fun e w' => e = .returned v/\Below w.heap.size w w'
structure pA (A B : Prop) : Prop where
 a : A
 b : B
theorem pA.out {A B : Prop} (h : pA A B) : A/\B := ⟨h.a, h.b⟩
theorem kq2 {A B : Prop} (x0 : A) (x1 : B) : pA A B := ⟨x0, x1⟩
structure pB (A B C : Prop) : Prop where
 a : A
 b : B
 c : C
theorem pB.out {A B C : Prop} (h : pB A B C) : A/\B/\C := ⟨h.a, h.b, h.c⟩
theorem kq3 {A B C : Prop} (x0 : A) (x1 : B) (x2 : C) : pB A B C := ⟨x0, x1, x2⟩
structure pC (A B C D : Prop) : Prop where
 a : A
 b : B
 c : C
 d : D
theorem pC.out {A B C D : Prop} (h : pC A B C D) : A/\B/\C/\D := ⟨h.a, h.b, h.c, h.d⟩
theorem kq4 {A B C D : Prop} (x0 : A) (x1 : B) (x2 : C) (x3 : D) : pC A B C D := ⟨x0, x1, x2, x3⟩
structure pE (A B C D E : Prop) : Prop where
 a : A
 b : B
 c : C
 d : D
 e : E
theorem pE.out {A B C D E : Prop} (h : pE A B C D E) : A/\B/\C/\D/\E := ⟨h.a, h.b, h.c, h.d, h.e⟩
theorem kq5 {A B C D E : Prop} (x0 : A) (x1 : B) (x2 : C) (x3 : D) (x4 : E) : pE A B C D E := ⟨x0, x1, x2, x3, x4⟩
structure pF (A B C D E F : Prop) : Prop where
 a : A
 b : B
 c : C
 d : D
 e : E
 f : F
theorem pF.out {A B C D E F : Prop} (h : pF A B C D E F) : A/\B/\C/\D/\E/\F := ⟨h.a, h.b, h.c, h.d, h.e, h.f⟩
theorem kq6 {A B C D E F : Prop} (x0 : A) (x1 : B) (x2 : C) (x3 : D) (x4 : E) (x5 : F) : pF A B C D E F := ⟨x0, x1, x2, x3, x4, x5⟩
structure pG (A B C D E F G : Prop) : Prop where
 a : A
 b : B
 c : C
 d : D
 e : E
 f : F
 g : G
theorem pG.out {A B C D E F G : Prop} (h : pG A B C D E F G) : A/\B/\C/\D/\E/\F/\G := ⟨h.a, h.b, h.c, h.d, h.e, h.f, h.g⟩
theorem kq7 {A B C D E F G : Prop} (x0 : A) (x1 : B) (x2 : C) (x3 : D) (x4 : E) (x5 : F) (x6 : G) : pG A B C D E F G := ⟨x0, x1, x2, x3, x4, x5, x6⟩
structure pH (A B C D E F G H : Prop) : Prop where
 a : A
 b : B
 c : C
 d : D
 e : E
 f : F
 g : G
 h : H
theorem pH.out {A B C D E F G H : Prop} (h : pH A B C D E F G H) : A/\B/\C/\D/\E/\F/\G/\H := ⟨h.a, h.b, h.c, h.d, h.e, h.f, h.g, h.h⟩
theorem kq8 {A B C D E F G H : Prop} (x0 : A) (x1 : B) (x2 : C) (x3 : D) (x4 : E) (x5 : F) (x6 : G) (x7 : H) : pH A B C D E F G H := ⟨x0, x1, x2, x3, x4, x5, x6, x7⟩
structure pI (A B C D E F G H I : Prop) : Prop where
 a : A
 b : B
 c : C
 d : D
 e : E
 f : F
 g : G
 h : H
 i : I
theorem pI.out {A B C D E F G H I : Prop} (h : pI A B C D E F G H I) : A/\B/\C/\D/\E/\F/\G/\H/\I := ⟨h.a, h.b, h.c, h.d, h.e, h.f, h.g, h.h, h.i⟩
theorem kq9 {A B C D E F G H I : Prop} (x0 : A) (x1 : B) (x2 : C) (x3 : D) (x4 : E) (x5 : F) (x6 : G) (x7 : H) (x8 : I) : pI A B C D E F G H I := ⟨x0, x1, x2, x3, x4, x5, x6, x7, x8⟩
structure pw (A B C D E F G H I J : Prop) : Prop where
 a : A
 b : B
 c : C
 d : D
 e : E
 f : F
 g : G
 h : H
 i : I
 j : J
theorem pw.out {A B C D E F G H I J : Prop} (h : pw A B C D E F G H I J) : A/\B/\C/\D/\E/\F/\G/\H/\I/\J := ⟨h.a, h.b, h.c, h.d, h.e, h.f, h.g, h.h, h.i, h.j⟩
theorem kq10 {A B C D E F G H I J : Prop} (x0 : A) (x1 : B) (x2 : C) (x3 : D) (x4 : E) (x5 : F) (x6 : G) (x7 : H) (x8 : I) (x9 : J) : pw A B C D E F G H I J := ⟨x0, x1, x2, x3, x4, x5, x6, x7, x8, x9⟩
structure oo (A B C D E F G H I J K : Prop) : Prop where
 a : A
 b : B
 c : C
 d : D
 e : E
 f : F
 g : G
 h : H
 i : I
 j : J
 k : K
theorem oo.out {A B C D E F G H I J K : Prop} (h : oo A B C D E F G H I J K) : A/\B/\C/\D/\E/\F/\G/\H/\I/\J/\K := ⟨h.a, h.b, h.c, h.d, h.e, h.f, h.g, h.h, h.i, h.j, h.k⟩
theorem kq11 {A B C D E F G H I J K : Prop} (x0 : A) (x1 : B) (x2 : C) (x3 : D) (x4 : E) (x5 : F) (x6 : G) (x7 : H) (x8 : I) (x9 : J) (x10 : K) : oo A B C D E F G H I J K := ⟨x0, x1, x2, x3, x4, x5, x6, x7, x8, x9, x10⟩
structure pz (A B C D E F G H I J K L : Prop) : Prop where
 a : A
 b : B
 c : C
 d : D
 e : E
 f : F
 g : G
 h : H
 i : I
 j : J
 k : K
 l : L
theorem pz.out {A B C D E F G H I J K L : Prop} (h : pz A B C D E F G H I J K L) : A/\B/\C/\D/\E/\F/\G/\H/\I/\J/\K/\L := ⟨h.a, h.b, h.c, h.d, h.e, h.f, h.g, h.h, h.i, h.j, h.k, h.l⟩
theorem kq12 {A B C D E F G H I J K L : Prop} (x0 : A) (x1 : B) (x2 : C) (x3 : D) (x4 : E) (x5 : F) (x6 : G) (x7 : H) (x8 : I) (x9 : J) (x10 : K) (x11 : L) : pz A B C D E F G H I J K L := ⟨x0, x1, x2, x3, x4, x5, x6, x7, x8, x9, x10, x11⟩
structure Jd (A B C D E F G H I J K L M : Prop) : Prop where
 a : A
 b : B
 c : C
 d : D
 e : E
 f : F
 g : G
 h : H
 i : I
 j : J
 k : K
 l : L
 m : M
theorem Jd.out {A B C D E F G H I J K L M : Prop} (h : Jd A B C D E F G H I J K L M) : A/\B/\C/\D/\E/\F/\G/\H/\I/\J/\K/\L/\M := ⟨h.a, h.b, h.c, h.d, h.e, h.f, h.g, h.h, h.i, h.j, h.k, h.l, h.m⟩
theorem kq13 {A B C D E F G H I J K L M : Prop} (x0 : A) (x1 : B) (x2 : C) (x3 : D) (x4 : E) (x5 : F) (x6 : G) (x7 : H) (x8 : I) (x9 : J) (x10 : K) (x11 : L) (x12 : M) : Jd A B C D E F G H I J K L M := ⟨x0, x1, x2, x3, x4, x5, x6, x7, x8, x9, x10, x11, x12⟩
structure Je (A B C D E F G H I J K L M N : Prop) : Prop where
 a : A
 b : B
 c : C
 d : D
 e : E
 f : F
 g : G
 h : H
 i : I
 j : J
 k : K
 l : L
 m : M
 n : N
theorem Je.out {A B C D E F G H I J K L M N : Prop} (h : Je A B C D E F G H I J K L M N) : A/\B/\C/\D/\E/\F/\G/\H/\I/\J/\K/\L/\M/\N := ⟨h.a, h.b, h.c, h.d, h.e, h.f, h.g, h.h, h.i, h.j, h.k, h.l, h.m, h.n⟩
theorem kq14 {A B C D E F G H I J K L M N : Prop} (x0 : A) (x1 : B) (x2 : C) (x3 : D) (x4 : E) (x5 : F) (x6 : G) (x7 : H) (x8 : I) (x9 : J) (x10 : K) (x11 : L) (x12 : M) (x13 : N) : Je A B C D E F G H I J K L M N := ⟨x0, x1, x2, x3, x4, x5, x6, x7, x8, x9, x10, x11, x12, x13⟩
theorem gl {α : Type} {a : Array α} {i : Nat} {v : α} (h : a[i]? = some v) : i < a.size := (Array.getElem?_eq_some_iff.1 h).1
theorem pu : (∀ (a : Act) (v : Value), a.put none v = a)/\(∀ (a : Act) (d : Tmp) (v : Value), a.put (some d) v = { a with tmps := a.tmps.setIfInBounds d v })/\(∀ (l : List Value) (i : Nat) (v : Value), l.toArray.setIfInBounds i v = (l.set i v).toArray)/\(∀ (x : Value) (l : List Value) (v : Value), (x :: l).set 0 v = v :: l)/\(∀ (x : Value) (l : List Value) (n : Nat) (v : Value), (x :: l).set (n + 1) v = x :: l.set n v) := ⟨fun _ _ => rfl, fun _ _ _ => rfl, fun _ _ _ => List.setIfInBounds_toArray .., fun _ _ _ => rfl, fun _ _ _ _ => rfl⟩
