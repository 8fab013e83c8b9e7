/- Short words for what stands often: plain. -/
import Derived.Test.YtcibkdbpicledaaGreatDoorProg
import Derived.IntWalk
import Derived.Lib.Hide
import Derived.Calls
set_option maxRecDepth 100000
namespace Go.Proofs.YtcibkdbpicledaaGreatDoor
open Go.RowKit
abbrev aa := @Below.refl
abbrev ab := @Or.inl
abbrev ae := @Or.inr
abbrev af := @List.getElem?_eq_getElem
abbrev ag := @List.mem_cons
abbrev ah := @List.mem_cons_of_mem
abbrev aj := @List.getD_eq_getElem?_getD
abbrev ak := @List.length_cons
abbrev am := @List.mem_append
abbrev aq := @List.length_map
abbrev av := @List.mem_cons_self
abbrev aw := @List.nodup_append
abbrev ax := @List.mem_append_right
abbrev ay := @List.length_take
abbrev az := @List.mem_append_left
abbrev aA := @List.getElem?_eq_some_iff
abbrev aB := @Option.map_eq_some_iff
abbrev aC := @List.mem_map
abbrev aD := @IntWalk.i64_in
abbrev aE := @List.length_append
abbrev aF := @List.nodup_cons
abbrev aG := @List.getElem_mem
abbrev aH := @List.getElem?_eq_none
abbrev aI := @Bool.and_eq_true
abbrev aJ := @Nat.lt_succ_self
abbrev aK := @List.length_nil
abbrev aL := @List.map_append
abbrev aM := @List.map_cons
abbrev aN := @List.length_drop
abbrev aO := @Nat.le_trans
abbrev aP := @List.cons_append
abbrev aQ := @List.pairwise_cons
abbrev aR := @List.map_congr_left
abbrev aS := @Bool.false_eq_true
abbrev aT := @List.mem_singleton
abbrev aU := @List.nil_append
abbrev aV := @Array.replicate_succ
abbrev aW := @Array.replicate_zero
abbrev aX := @List.take_append_drop
abbrev aY := @List.drop_eq_getElem_cons
abbrev aZ := @List.append_toArray
abbrev bg := @List.getElem?_map
abbrev bi := @List.take_of_length_le
abbrev bp := @List.size_toArray
abbrev bq := @List.getElem_map
abbrev bw := @List.push_toArray
abbrev bx := @List.take_succ_eq_append_getElem
abbrev bz := @Option.isSome_some
abbrev bA := @Option.getD_some
abbrev bB := @List.mem_of_mem_drop
abbrev bC := @List.pairwise_append
abbrev bD := @Nat.lt_of_lt_of_le
abbrev bE := @List.getElem?_cons_succ
abbrev bF := @List.find?_eq_none
abbrev bG := @List.length_set
abbrev bH := @Option.isSome_none
abbrev bI := @List.mem_of_mem_take
abbrev bJ := @List.mem_range
abbrev bK := @Array.getElem?_toList
abbrev bM := @Nat.le_succ
abbrev bO := @List.getElem?_range
abbrev bP := @List.mem_of_find?_eq_some
abbrev bQ := @Option.getD_none
abbrev bS := @List.take_succ_cons
abbrev bT := @Nat.zero_add
abbrev bU := @List.getElem?_append_right
abbrev bW := @List.append_assoc
abbrev bX := @List.map_take
abbrev bY := @List.drop_eq_nil_of_le
abbrev bZ := @List.append_nil
abbrev ce := @List.drop_succ_cons
abbrev cf := @List.countP_le_length
abbrev cg := @Nat.lt_or_ge
abbrev ci := @List.length_eq_zero_iff
abbrev co := @List.mem_iff_getElem
abbrev cq := @List.mem_of_getElem?
abbrev ct := @List.filter_eq_nil_iff
abbrev cy := @List.getElem?_set_self
abbrev cz := @List.getElem?_toArray
abbrev cA := @List.getElem?_take_of_lt
abbrev cB := @List.map_drop
abbrev cC := @List.getElem?_take
abbrev cD := @List.getElem?_set_ne
abbrev cE := @Nat.add_sub_cancel_left
abbrev cF := @List.take_zero
abbrev cG := @List.find?_some
abbrev cH := @Nat.zero_le
abbrev cI := @List.getElem?_append_left
abbrev cJ := @List.mem_or_eq_of_mem_set
abbrev cL := @List.pairwise_iff_getElem
abbrev cM := @List.mem_flatten
abbrev cN := @List.map_map
abbrev cO := @Nat.le_of_lt
abbrev cP := @Nat.ne_of_lt
abbrev cQ := @IntWalk.u64_in
abbrev cR := @List.drop_zero
abbrev cT := @Nat.pow_le_pow_right
abbrev cU := @Nat.shiftLeft_add_eq_or_of_lt
abbrev cV := @Int.lt_trichotomy
abbrev cW := @List.countP_cons_of_pos
abbrev cX := @Nat.min_eq_left
abbrev cY := @Array.getElem?_eq_none
abbrev cZ := @Nat.mul_lt_mul_of_pos_right
abbrev c8 := @Array.toList_setIfInBounds
abbrev c9 := @List.filter_append
abbrev da := @Nat.lt_of_le_of_lt
abbrev db := @List.contains_iff_mem
abbrev dd := @List.set_eq_take_append_cons_drop
abbrev de := @Decidable.not_not
abbrev df := @Int.toNat_natCast
abbrev dg := @List.set_append_left
abbrev dh := @Nat.mul_le_mul_right
abbrev di := @List.find?_range_eq_some
abbrev dj := @Nat.add_right_cancel_iff
abbrev dl := @List.exists_cons_of_length_pos
abbrev dm := @List.filter_cons_of_neg
abbrev dp := @List.lookup_cons
abbrev dq := @Below.heap_setCell
abbrev dr := @UInt8.not_lt
abbrev dt := @List.mem_filter
abbrev du := @Nat.testBit_two_pow_sub_succ
abbrev dw := @Option.map_some
abbrev dx := @Nat.add_assoc
abbrev dy := @UInt8.lt_iff_toNat_lt
abbrev dz := @List.ext_getElem?
abbrev dA := @List.flatten_cons
abbrev dB := @Nat.mod_two_eq_zero_or_one
abbrev dC := @List.all_eq_true
abbrev dD := @List.ext_getElem
abbrev dE := @List.countP_eq_zero
abbrev dF := @List.filter_eq_self
abbrev dG := @List.flatMap_append
abbrev dH := @List.flatten_append
abbrev dI := @List.range_succ
abbrev dJ := @List.sum_append
abbrev dK := @List.filter_filter
abbrev dL := @List.getElem?_drop
abbrev dM := @List.getElem_range
abbrev dN := @List.getElem?_cons_zero
abbrev dO := @List.map_id
abbrev dP := @Bool.eq_false_iff
abbrev dQ := @List.flatMap_cons
abbrev dR := @List.getElem_take
abbrev dS := @List.map_set
abbrev dT := @Nat.sub_self
abbrev dU := @UInt8.le_antisymm
theorem Ih {n : Nat} : n <= n := Nat.le_refl n
theorem If {p : Prop} (h : p) : Hid p := h
theorem ic (A : World -> Prop) : ∃ I : World -> Prop, (∀ w', I w' -> A w')/\(∀ w', A w' -> I w') := ⟨A, fun _ h => h, fun _ h => h⟩
theorem Ii {α : Sort _} (a : α) : ∃ k, a = k := ⟨a, rfl⟩
abbrev Ct (n : FuncId) (a : Array Value) (w : World) (R : Ending -> World -> Prop) : Prop := Calls Tryz.prog n a w R
abbrev Cb (n : FuncId) (a : Array Value) (w : World) (v : Value) : Prop := Calls Tryz.prog n a w fun e w' => e = .returned v/\Below w.heap.size w w'
structure pA (A B : Prop) : Prop where
 a : A
 b : B
theorem pA.out {A B : Prop} (h : pA A B) : A/\B := ⟨h.a, h.b⟩
theorem kq2 {A B : Prop} (x0 : A) (x1 : B) : pA A B := ⟨x0, x1⟩
structure pB (A B C : Prop) : Prop where
 a : A
 b : B
 c : C
theorem pB.out {A B C : Prop} (h : pB A B C) : A/\B/\C := ⟨h.a, h.b, h.c⟩
theorem kq3 {A B C : Prop} (x0 : A) (x1 : B) (x2 : C) : pB A B C := ⟨x0, x1, x2⟩
structure pC (A B C D : Prop) : Prop where
 a : A
 b : B
 c : C
 d : D
theorem pC.out {A B C D : Prop} (h : pC A B C D) : A/\B/\C/\D := ⟨h.a, h.b, h.c, h.d⟩
theorem kq4 {A B C D : Prop} (x0 : A) (x1 : B) (x2 : C) (x3 : D) : pC A B C D := ⟨x0, x1, x2, x3⟩
structure pE (A B C D E : Prop) : Prop where
 a : A
 b : B
 c : C
 d : D
 e : E
theorem pE.out {A B C D E : Prop} (h : pE A B C D E) : A/\B/\C/\D/\E := ⟨h.a, h.b, h.c, h.d, h.e⟩
theorem kq5 {A B C D E : Prop} (x0 : A) (x1 : B) (x2 : C) (x3 : D) (x4 : E) : pE A B C D E := ⟨x0, x1, x2, x3, x4⟩
structure pF (A B C D E F : Prop) : Prop where
 a : A
 b : B
 c : C
 d : D
 e : E
 f : F
theorem pF.out {A B C D E F : Prop} (h : pF A B C D E F) : A/\B/\C/\D/\E/\F := ⟨h.a, h.b, h.c, h.d, h.e, h.f⟩
theorem kq6 {A B C D E F : Prop} (x0 : A) (x1 : B) (x2 : C) (x3 : D) (x4 : E) (x5 : F) : pF A B C D E F := ⟨x0, x1, x2, x3, x4, x5⟩
structure pG (A B C D E F G : Prop) : Prop where
 a : A
 b : B
 c : C
 d : D
 e : E
 f : F
 g : G
theorem pG.out {A B C D E F G : Prop} (h : pG A B C D E F G) : A/\B/\C/\D/\E/\F/\G := ⟨h.a, h.b, h.c, h.d, h.e, h.f, h.g⟩
theorem kq7 {A B C D E F G : Prop} (x0 : A) (x1 : B) (x2 : C) (x3 : D) (x4 : E) (x5 : F) (x6 : G) : pG A B C D E F G := ⟨x0, x1, x2, x3, x4, x5, x6⟩
structure pH (A B C D E F G H : Prop) : Prop where
 a : A
 b : B
 c : C
 d : D
 e : E
 f : F
 g : G
 h : H
theorem pH.out {A B C D E F G H : Prop} (h : pH A B C D E F G H) : A/\B/\C/\D/\E/\F/\G/\H := ⟨h.a, h.b, h.c, h.d, h.e, h.f, h.g, h.h⟩
theorem kq8 {A B C D E F G H : Prop} (x0 : A) (x1 : B) (x2 : C) (x3 : D) (x4 : E) (x5 : F) (x6 : G) (x7 : H) : pH A B C D E F G H := ⟨x0, x1, x2, x3, x4, x5, x6, x7⟩
structure pI (A B C D E F G H I : Prop) : Prop where
 a : A
 b : B
 c : C
 d : D
 e : E
 f : F
 g : G
 h : H
 i : I
theorem pI.out {A B C D E F G H I : Prop} (h : pI A B C D E F G H I) : A/\B/\C/\D/\E/\F/\G/\H/\I := ⟨h.a, h.b, h.c, h.d, h.e, h.f, h.g, h.h, h.i⟩
theorem kq9 {A B C D E F G H I : Prop} (x0 : A) (x1 : B) (x2 : C) (x3 : D) (x4 : E) (x5 : F) (x6 : G) (x7 : H) (x8 : I) : pI A B C D E F G H I := ⟨x0, x1, x2, x3, x4, x5, x6, x7, x8⟩
structure pw (A B C D E F G H I J : Prop) : Prop where
 a : A
 b : B
 c : C
 d : D
 e : E
 f : F
 g : G
 h : H
 i : I
 j : J
theorem pw.out {A B C D E F G H I J : Prop} (h : pw A B C D E F G H I J) : A/\B/\C/\D/\E/\F/\G/\H/\I/\J := ⟨h.a, h.b, h.c, h.d, h.e, h.f, h.g, h.h, h.i, h.j⟩
theorem kq10 {A B C D E F G H I J : Prop} (x0 : A) (x1 : B) (x2 : C) (x3 : D) (x4 : E) (x5 : F) (x6 : G) (x7 : H) (x8 : I) (x9 : J) : pw A B C D E F G H I J := ⟨x0, x1, x2, x3, x4, x5, x6, x7, x8, x9⟩
structure py (A B C D E F G H I J K : Prop) : Prop where
 a : A
 b : B
 c : C
 d : D
 e : E
 f : F
 g : G
 h : H
 i : I
 j : J
 k : K
theorem py.out {A B C D E F G H I J K : Prop} (h : py A B C D E F G H I J K) : A/\B/\C/\D/\E/\F/\G/\H/\I/\J/\K := ⟨h.a, h.b, h.c, h.d, h.e, h.f, h.g, h.h, h.i, h.j, h.k⟩
theorem kq11 {A B C D E F G H I J K : Prop} (x0 : A) (x1 : B) (x2 : C) (x3 : D) (x4 : E) (x5 : F) (x6 : G) (x7 : H) (x8 : I) (x9 : J) (x10 : K) : py A B C D E F G H I J K := ⟨x0, x1, x2, x3, x4, x5, x6, x7, x8, x9, x10⟩
structure pz (A B C D E F G H I J K L : Prop) : Prop where
 a : A
 b : B
 c : C
 d : D
 e : E
 f : F
 g : G
 h : H
 i : I
 j : J
 k : K
 l : L
theorem pz.out {A B C D E F G H I J K L : Prop} (h : pz A B C D E F G H I J K L) : A/\B/\C/\D/\E/\F/\G/\H/\I/\J/\K/\L := ⟨h.a, h.b, h.c, h.d, h.e, h.f, h.g, h.h, h.i, h.j, h.k, h.l⟩
theorem kq12 {A B C D E F G H I J K L : Prop} (x0 : A) (x1 : B) (x2 : C) (x3 : D) (x4 : E) (x5 : F) (x6 : G) (x7 : H) (x8 : I) (x9 : J) (x10 : K) (x11 : L) : pz A B C D E F G H I J K L := ⟨x0, x1, x2, x3, x4, x5, x6, x7, x8, x9, x10, x11⟩
theorem gl {α : Type} {a : Array α} {i : Nat} {v : α} (h : a[i]? = some v) : i < a.size := (Array.getElem?_eq_some_iff.1 h).1
theorem pu : (∀ (a : Act) (v : Value), a.put none v = a)/\(∀ (a : Act) (d : Tmp) (v : Value), a.put (some d) v = { a with tmps := a.tmps.setIfInBounds d v })/\(∀ (l : List Value) (i : Nat) (v : Value), l.toArray.setIfInBounds i v = (l.set i v).toArray)/\(∀ (x : Value) (l : List Value) (v : Value), (x :: l).set 0 v = v :: l)/\(∀ (x : Value) (l : List Value) (n : Nat) (v : Value), (x :: l).set (n + 1) v = x :: l.set n v) := ⟨fun _ _ => rfl, fun _ _ _ => rfl, fun _ _ _ => List.setIfInBounds_toArray .., fun _ _ _ => rfl, fun _ _ _ _ => rfl⟩
