/- Short words for what stands often: plain. -/
import Derived.Test.YtpljannolpapgaaGreatDoorProg
import Derived.IntWalk
import Derived.Lib.Hide
import Derived.Calls
set_option maxRecDepth 100000
namespace Go.Proofs.YtpljannolpapgaaGreatDoor
open Go.RowKit
abbrev aa := @Below.refl
abbrev ab := @Or.inl
abbrev ae := @Or.inr
abbrev af := @List.getElem?_eq_getElem
abbrev ag := @List.length_cons
abbrev ah := @List.length_append
abbrev aj := @List.mem_cons
abbrev ak := @List.mem_cons_of_mem
abbrev am := @List.mem_cons_self
abbrev ao := @List.length_map
abbrev aq := @List.getElem?_eq_some_iff
abbrev av := @List.getD_eq_getElem?_getD
abbrev aw := @List.getElem_mem
abbrev ax := @List.mem_append
abbrev ay := @List.mem_map
abbrev az := @IntWalk.i64_in
abbrev aA := @List.mem_singleton
abbrev aB := @Nat.le_trans
abbrev aC := @List.nodup_append
abbrev aD := @Option.map_eq_some_iff
abbrev aE := @List.mem_append_left
abbrev aF := @List.nodup_cons
abbrev aG := @List.mem_append_right
abbrev aH := @List.take_succ_eq_append_getElem
abbrev aI := @Bool.and_eq_true
abbrev aJ := @Nat.lt_of_lt_of_le
abbrev aK := @List.cons_append
abbrev aL := @List.length_take
abbrev aM := @List.length_nil
abbrev aN := @Array.replicate_succ
abbrev aO := @Array.replicate_zero
abbrev aP := @List.map_append
abbrev aQ := @List.append_toArray
abbrev aR := @List.size_toArray
abbrev aS := @List.getElem?_eq_none
abbrev aT := @List.take_of_length_le
abbrev aU := @List.push_toArray
abbrev aV := @Nat.lt_succ_self
abbrev aW := @List.map_congr_left
abbrev aX := @List.take_append_drop
abbrev aY := @List.nil_append
abbrev aZ := @List.mem_range
abbrev bg := @List.map_cons
abbrev bi := @List.length_singleton
abbrev bp := @List.pairwise_cons
abbrev bw := @List.mem_of_mem_drop
abbrev bz := @List.pairwise_append
abbrev bA := @List.length_set
abbrev bB := @List.mem_of_mem_take
abbrev bC := @List.append_assoc
abbrev bD := @List.append_nil
abbrev bE := @List.find?_eq_none
abbrev bG := @List.getElem?_toArray
abbrev bH := @Nat.zero_add
abbrev bI := @List.getElem_map
abbrev bJ := @List.getElem?_map
abbrev bK := @List.mem_iff_getElem
abbrev bM := @List.drop_eq_getElem_cons
abbrev bO := @IntWalk.u64_in
abbrev bP := @List.getElem?_range
abbrev bQ := @Array.getElem?_toList
abbrev bS := @List.length_drop
abbrev bT := @List.mem_of_find?_eq_some
abbrev bU := @List.drop_succ_cons
abbrev bW := @List.take_succ_cons
abbrev bX := @Below.heap_alloc
abbrev bY := @Nat.zero_le
abbrev bZ := @List.flatMap_cons
abbrev cg := @List.getElem?_append_right
abbrev ci := @List.getElem?_set_self
abbrev co := @Nat.lt_or_ge
abbrev ct := @Nat.le_succ
abbrev cy := @List.mem_or_eq_of_mem_set
abbrev cz := @List.pairwise_iff_getElem
abbrev cB := @List.countP_le_length
abbrev cC := @List.mem_flatten
abbrev cD := @List.map_map
abbrev cE := @List.getElem?_set_ne
abbrev cI := @List.mem_of_getElem?
abbrev cJ := @List.take_zero
abbrev cL := @Nat.pow_le_pow_right
abbrev cM := @Nat.shiftLeft_add_eq_or_of_lt
abbrev cN := @List.getElem?_cons_succ
abbrev cO := @List.length_eq_zero_iff
abbrev cP := @List.flatten_append
abbrev cQ := @Nat.mul_lt_mul_of_pos_right
abbrev cR := @Array.toList_setIfInBounds
abbrev cT := @List.drop_zero
abbrev cU := @List.getElem?_take
abbrev cV := @Nat.lt_of_le_of_lt
abbrev cW := @List.contains_iff_mem
abbrev cX := @List.set_eq_take_append_cons_drop
abbrev cY := @Array.getElem?_eq_getElem
abbrev cZ := @List.mem_filter
abbrev da := @Decidable.not_not
abbrev db := @Int.toNat_natCast
abbrev de := @List.length_range
abbrev df := @List.find?_range_eq_some
abbrev dg := @List.getElem?_take_of_lt
abbrev dh := @List.map_take
abbrev di := @Nat.add_right_cancel_iff
abbrev dj := @List.exists_cons_of_length_pos
abbrev dl := @Nat.add_sub_cancel_left
abbrev dm := @Array.getElem?_eq_none
abbrev dq := @Below.heap_setCell
abbrev dr := @List.drop_eq_nil_of_le
abbrev dt := @List.filter_eq_nil_iff
abbrev du := @List.range_succ
abbrev dw := @Nat.testBit_two_pow_sub_succ
abbrev dx := @List.ext_getElem?
abbrev dy := @List.flatten_cons
abbrev dz := @Nat.mul_le_mul_right
abbrev dA := @Option.ne_none_iff_exists'
abbrev dB := @List.ext_getElem
abbrev dC := @List.getElem?_append_left
abbrev dD := @Nat.add_assoc
abbrev dE := @Nat.min_eq_left
abbrev dF := @Bool.false_eq_true
abbrev dG := @List.getElem_range
abbrev dH := @List.map_id
abbrev dI := @Int.lt_trichotomy
abbrev dJ := @List.nodup_nil
abbrev dK := @List.pairwise_map
abbrev dL := @UInt8.not_lt
abbrev Xu (n : Int) : Value := .int .u64 n
abbrev Xi (n : Int) : Value := .int .i64 n
abbrev Xa (a : Int) (b : Int) (c : Int) (d : Int) (e : Int) (f : Int) (g : Int) : Obj := .cells #[Xu a, Xu b, Xu c, Xu d, Xu e, Xu f, Xu g] 280
abbrev Xb (a : Int) (b : Int) (c : Int) (d : Int) (e : Int) (f : Int) : Obj := .cells #[Xu a, Xu b, Xu c, Xu d, Xu e, Xu f] 139
abbrev Xc (a : Nat) (b : Bool) : Obj := .cells #[.pointer (some ⟨a, 0, none⟩), .bool b] 284
abbrev Xd (a : Nat) (b : Int) : Obj := .cells #[.pointer (some ⟨a, 0, none⟩), Xi b] 145
abbrev Xe (a : Int) (b : Int) : Obj := .cells #[Xu a, Xu b] 104
abbrev Xf (a : Int) : Obj := .cells #[Xu a] 61
abbrev Xg (a : Nat) (b : Int) : Obj := .cells #[.pointer (some ⟨a, 0, none⟩), Xi b] 162
abbrev Xh (a : Nat) : Obj := .cells #[.pointer (some ⟨a, 0, none⟩)] 26
abbrev Xj (a : Int) : Obj := .cells #[Xi a] 3
abbrev Xk (a : Int) (b : Int) (c : Int) : Obj := .cells #[Xi a, Xi b, Xu c] 188
abbrev Xl (a : Int) : Obj := .cells #[.slice none 0 0, .slice none 0 0, .slice none 0 0, Xu a] 215
abbrev Xm (a : Nat) : Obj := .cells #[.pointer (some ⟨a, 0, none⟩)] 90
theorem Ih {n : Nat} : n <= n := Nat.le_refl n
theorem If {p : Prop} (h : p) : Hid p := h
theorem ic (A : World -> Prop) : ∃ I : World -> Prop, (∀ w', I w' -> A w')/\(∀ w', A w' -> I w') := ⟨A, fun _ h => h, fun _ h => h⟩
theorem Ii {α : Sort _} (a : α) : ∃ k, a = k := ⟨a, rfl⟩
theorem Jc {P : Program} {f : FuncId} {a : Array Value} {w : World} {r : Ending} {Q : Ending -> World -> Prop} {R : World -> Prop} {X : World} (h : Calls P f a w fun e w' => e = r/\R w') (k : Q r X) (q : ∀ w', R w' -> w' = X := by intro w' h; first | exact h | exact h.symm) : Calls P f a w Q := h.mono fun _ w' ⟨h1, h2⟩ => h1 ▸ (q w' h2).symm ▸ k
theorem b8 {P : Program} {f : FuncId} {a : Array Value} {w : World} {r : Ending} {R : World -> Prop} {Q : Ending -> World -> Prop} (h : Calls P f a w fun e w' => e = r/\R w') (k : ∀ w', R w' -> Q r w') : Calls P f a w Q := h.mono fun _ w' ⟨h1, h2⟩ => h1 ▸ k w' h2
abbrev Ct (n : FuncId) (a : Array Value) (w : World) (R : Ending -> World -> Prop) : Prop := Calls Tryz.prog n a w R
abbrev Cb (n : FuncId) (a : Array Value) (w : World) (v : Value) : Prop := Calls Tryz.prog n a w fun e w' => e = .returned v/\Below w.heap.size w w'
structure pA (A B : Prop) : Prop where
 a : A
 b : B
theorem pA.out {A B : Prop} (h : pA A B) : A/\B := ⟨h.a, h.b⟩
theorem kq2 {A B : Prop} (x0 : A) (x1 : B) : pA A B := ⟨x0, x1⟩
structure pB (A B C : Prop) : Prop where
 a : A
 b : B
 c : C
theorem pB.out {A B C : Prop} (h : pB A B C) : A/\B/\C := ⟨h.a, h.b, h.c⟩
theorem kq3 {A B C : Prop} (x0 : A) (x1 : B) (x2 : C) : pB A B C := ⟨x0, x1, x2⟩
structure pC (A B C D : Prop) : Prop where
 a : A
 b : B
 c : C
 d : D
theorem pC.out {A B C D : Prop} (h : pC A B C D) : A/\B/\C/\D := ⟨h.a, h.b, h.c, h.d⟩
theorem kq4 {A B C D : Prop} (x0 : A) (x1 : B) (x2 : C) (x3 : D) : pC A B C D := ⟨x0, x1, x2, x3⟩
structure pE (A B C D E : Prop) : Prop where
 a : A
 b : B
 c : C
 d : D
 e : E
theorem pE.out {A B C D E : Prop} (h : pE A B C D E) : A/\B/\C/\D/\E := ⟨h.a, h.b, h.c, h.d, h.e⟩
theorem kq5 {A B C D E : Prop} (x0 : A) (x1 : B) (x2 : C) (x3 : D) (x4 : E) : pE A B C D E := ⟨x0, x1, x2, x3, x4⟩
structure pF (A B C D E F : Prop) : Prop where
 a : A
 b : B
 c : C
 d : D
 e : E
 f : F
theorem pF.out {A B C D E F : Prop} (h : pF A B C D E F) : A/\B/\C/\D/\E/\F := ⟨h.a, h.b, h.c, h.d, h.e, h.f⟩
theorem kq6 {A B C D E F : Prop} (x0 : A) (x1 : B) (x2 : C) (x3 : D) (x4 : E) (x5 : F) : pF A B C D E F := ⟨x0, x1, x2, x3, x4, x5⟩
structure pG (A B C D E F G : Prop) : Prop where
 a : A
 b : B
 c : C
 d : D
 e : E
 f : F
 g : G
theorem pG.out {A B C D E F G : Prop} (h : pG A B C D E F G) : A/\B/\C/\D/\E/\F/\G := ⟨h.a, h.b, h.c, h.d, h.e, h.f, h.g⟩
theorem kq7 {A B C D E F G : Prop} (x0 : A) (x1 : B) (x2 : C) (x3 : D) (x4 : E) (x5 : F) (x6 : G) : pG A B C D E F G := ⟨x0, x1, x2, x3, x4, x5, x6⟩
structure pH (A B C D E F G H : Prop) : Prop where
 a : A
 b : B
 c : C
 d : D
 e : E
 f : F
 g : G
 h : H
theorem pH.out {A B C D E F G H : Prop} (h : pH A B C D E F G H) : A/\B/\C/\D/\E/\F/\G/\H := ⟨h.a, h.b, h.c, h.d, h.e, h.f, h.g, h.h⟩
theorem kq8 {A B C D E F G H : Prop} (x0 : A) (x1 : B) (x2 : C) (x3 : D) (x4 : E) (x5 : F) (x6 : G) (x7 : H) : pH A B C D E F G H := ⟨x0, x1, x2, x3, x4, x5, x6, x7⟩
structure pI (A B C D E F G H I : Prop) : Prop where
 a : A
 b : B
 c : C
 d : D
 e : E
 f : F
 g : G
 h : H
 i : I
theorem pI.out {A B C D E F G H I : Prop} (h : pI A B C D E F G H I) : A/\B/\C/\D/\E/\F/\G/\H/\I := ⟨h.a, h.b, h.c, h.d, h.e, h.f, h.g, h.h, h.i⟩
theorem kq9 {A B C D E F G H I : Prop} (x0 : A) (x1 : B) (x2 : C) (x3 : D) (x4 : E) (x5 : F) (x6 : G) (x7 : H) (x8 : I) : pI A B C D E F G H I := ⟨x0, x1, x2, x3, x4, x5, x6, x7, x8⟩
structure pw (A B C D E F G H I J : Prop) : Prop where
 a : A
 b : B
 c : C
 d : D
 e : E
 f : F
 g : G
 h : H
 i : I
 j : J
theorem pw.out {A B C D E F G H I J : Prop} (h : pw A B C D E F G H I J) : A/\B/\C/\D/\E/\F/\G/\H/\I/\J := ⟨h.a, h.b, h.c, h.d, h.e, h.f, h.g, h.h, h.i, h.j⟩
theorem kq10 {A B C D E F G H I J : Prop} (x0 : A) (x1 : B) (x2 : C) (x3 : D) (x4 : E) (x5 : F) (x6 : G) (x7 : H) (x8 : I) (x9 : J) : pw A B C D E F G H I J := ⟨x0, x1, x2, x3, x4, x5, x6, x7, x8, x9⟩
structure oo (A B C D E F G H I J K : Prop) : Prop where
 a : A
 b : B
 c : C
 d : D
 e : E
 f : F
 g : G
 h : H
 i : I
 j : J
 k : K
theorem oo.out {A B C D E F G H I J K : Prop} (h : oo A B C D E F G H I J K) : A/\B/\C/\D/\E/\F/\G/\H/\I/\J/\K := ⟨h.a, h.b, h.c, h.d, h.e, h.f, h.g, h.h, h.i, h.j, h.k⟩
theorem kq11 {A B C D E F G H I J K : Prop} (x0 : A) (x1 : B) (x2 : C) (x3 : D) (x4 : E) (x5 : F) (x6 : G) (x7 : H) (x8 : I) (x9 : J) (x10 : K) : oo A B C D E F G H I J K := ⟨x0, x1, x2, x3, x4, x5, x6, x7, x8, x9, x10⟩
structure pz (A B C D E F G H I J K L : Prop) : Prop where
 a : A
 b : B
 c : C
 d : D
 e : E
 f : F
 g : G
 h : H
 i : I
 j : J
 k : K
 l : L
theorem pz.out {A B C D E F G H I J K L : Prop} (h : pz A B C D E F G H I J K L) : A/\B/\C/\D/\E/\F/\G/\H/\I/\J/\K/\L := ⟨h.a, h.b, h.c, h.d, h.e, h.f, h.g, h.h, h.i, h.j, h.k, h.l⟩
theorem kq12 {A B C D E F G H I J K L : Prop} (x0 : A) (x1 : B) (x2 : C) (x3 : D) (x4 : E) (x5 : F) (x6 : G) (x7 : H) (x8 : I) (x9 : J) (x10 : K) (x11 : L) : pz A B C D E F G H I J K L := ⟨x0, x1, x2, x3, x4, x5, x6, x7, x8, x9, x10, x11⟩
structure Jd (A B C D E F G H I J K L M : Prop) : Prop where
 a : A
 b : B
 c : C
 d : D
 e : E
 f : F
 g : G
 h : H
 i : I
 j : J
 k : K
 l : L
 m : M
theorem Jd.out {A B C D E F G H I J K L M : Prop} (h : Jd A B C D E F G H I J K L M) : A/\B/\C/\D/\E/\F/\G/\H/\I/\J/\K/\L/\M := ⟨h.a, h.b, h.c, h.d, h.e, h.f, h.g, h.h, h.i, h.j, h.k, h.l, h.m⟩
theorem kq13 {A B C D E F G H I J K L M : Prop} (x0 : A) (x1 : B) (x2 : C) (x3 : D) (x4 : E) (x5 : F) (x6 : G) (x7 : H) (x8 : I) (x9 : J) (x10 : K) (x11 : L) (x12 : M) : Jd A B C D E F G H I J K L M := ⟨x0, x1, x2, x3, x4, x5, x6, x7, x8, x9, x10, x11, x12⟩
structure Je (A B C D E F G H I J K L M N : Prop) : Prop where
 a : A
 b : B
 c : C
 d : D
 e : E
 f : F
 g : G
 h : H
 i : I
 j : J
 k : K
 l : L
 m : M
 n : N
theorem Je.out {A B C D E F G H I J K L M N : Prop} (h : Je A B C D E F G H I J K L M N) : A/\B/\C/\D/\E/\F/\G/\H/\I/\J/\K/\L/\M/\N := ⟨h.a, h.b, h.c, h.d, h.e, h.f, h.g, h.h, h.i, h.j, h.k, h.l, h.m, h.n⟩
theorem kq14 {A B C D E F G H I J K L M N : Prop} (x0 : A) (x1 : B) (x2 : C) (x3 : D) (x4 : E) (x5 : F) (x6 : G) (x7 : H) (x8 : I) (x9 : J) (x10 : K) (x11 : L) (x12 : M) (x13 : N) : Je A B C D E F G H I J K L M N := ⟨x0, x1, x2, x3, x4, x5, x6, x7, x8, x9, x10, x11, x12, x13⟩
theorem gl {α : Type} {a : Array α} {i : Nat} {v : α} (h : a[i]? = some v) : i < a.size := (Array.getElem?_eq_some_iff.1 h).1
theorem pu : (∀ (a : Act) (v : Value), a.put none v = a)/\(∀ (a : Act) (d : Tmp) (v : Value), a.put (some d) v = { a with tmps := a.tmps.setIfInBounds d v })/\(∀ (l : List Value) (i : Nat) (v : Value), l.toArray.setIfInBounds i v = (l.set i v).toArray)/\(∀ (x : Value) (l : List Value) (v : Value), (x :: l).set 0 v = v :: l)/\(∀ (x : Value) (l : List Value) (n : Nat) (v : Value), (x :: l).set (n + 1) v = x :: l.set n v) := ⟨fun _ _ => rfl, fun _ _ _ => rfl, fun _ _ _ => List.setIfInBounds_toArray .., fun _ _ _ => rfl, fun _ _ _ _ => rfl⟩
