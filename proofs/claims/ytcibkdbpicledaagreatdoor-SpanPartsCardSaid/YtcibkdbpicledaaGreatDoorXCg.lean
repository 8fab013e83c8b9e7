/- Short words for what stands often: plain. -/
import Derived.Test.YtcibkdbpicledaaGreatDoorProg
import Derived.IntWalk
import Derived.Lib.Hide
import Derived.Calls
set_option maxRecDepth 100000
namespace Go.Proofs.YtcibkdbpicledaaGreatDoor
open Go.RowKit
abbrev aa := @Below.refl
abbrev ab := @Or.inl
abbrev ae := @Or.inr
abbrev af := @List.getElem?_eq_getElem
abbrev ag := @List.mem_cons
abbrev ah := @List.mem_cons_of_mem
abbrev aj := @List.length_cons
abbrev ak := @List.mem_append
abbrev am := @List.length_take
abbrev aq := @List.getD_eq_getElem?_getD
abbrev av := @List.length_map
abbrev aw := @List.mem_cons_self
abbrev ax := @List.nodup_append
abbrev ay := @List.mem_append_right
abbrev az := @IntWalk.i64_in
abbrev aA := @List.mem_append_left
abbrev aB := @List.getElem?_eq_some_iff
abbrev aC := @List.mem_map
abbrev aD := @Option.map_eq_some_iff
abbrev aE := @List.length_append
abbrev aF := @List.nodup_cons
abbrev aG := @List.take_of_length_le
abbrev aH := @Nat.le_trans
abbrev aI := @List.getElem_mem
abbrev aJ := @List.getElem?_eq_none
abbrev aK := @Bool.and_eq_true
abbrev aL := @List.length_nil
abbrev aM := @Nat.lt_succ_self
abbrev aN := @List.take_append_drop
abbrev aO := @List.map_append
abbrev aP := @List.cons_append
abbrev aQ := @List.map_cons
abbrev aR := @List.pairwise_cons
abbrev aS := @List.nil_append
abbrev aT := @Array.replicate_succ
abbrev aU := @Array.replicate_zero
abbrev aV := @List.length_drop
abbrev aW := @Nat.lt_of_lt_of_le
abbrev aX := @List.append_toArray
abbrev aY := @List.map_congr_left
abbrev aZ := @List.mem_singleton
abbrev bg := @List.size_toArray
abbrev bi := @List.drop_eq_getElem_cons
abbrev bp := @List.getElem?_map
abbrev bq := @List.push_toArray
abbrev bw := @List.take_succ_eq_append_getElem
abbrev bx := @List.getElem_map
abbrev bz := @List.mem_of_mem_drop
abbrev bA := @List.pairwise_append
abbrev bB := @List.getElem?_cons_succ
abbrev bC := @Bool.false_eq_true
abbrev bD := @List.length_set
abbrev bE := @List.mem_of_mem_take
abbrev bF := @Nat.le_succ
abbrev bG := @List.mem_range
abbrev bH := @Array.getElem?_toList
abbrev bI := @List.getElem?_range
abbrev bJ := @List.take_succ_cons
abbrev bK := @Nat.zero_add
abbrev bM := @List.find?_eq_none
abbrev bO := @List.getElem?_toArray
abbrev bP := @List.drop_succ_cons
abbrev bQ := @List.getElem?_append_right
abbrev bS := @List.length_eq_zero_iff
abbrev bT := @List.append_assoc
abbrev bU := @List.map_take
abbrev bW := @List.mem_of_find?_eq_some
abbrev bX := @List.drop_eq_nil_of_le
abbrev bY := @List.getElem?_take
abbrev bZ := @List.append_nil
abbrev ce := @List.countP_le_length
abbrev cf := @Int.toNat_natCast
abbrev cg := @List.getElem?_set_self
abbrev ci := @List.drop_zero
abbrev co := @List.getElem?_take_of_lt
abbrev cq := @List.map_drop
abbrev ct := @Nat.lt_or_ge
abbrev cu := @Nat.min_eq_left
abbrev cy := @List.countP_cons_of_pos
abbrev cz := @List.getElem?_set_ne
abbrev cA := @List.mem_iff_getElem
abbrev cB := @Nat.add_sub_cancel_left
abbrev cC := @Nat.zero_le
abbrev cD := @List.take_zero
abbrev cE := @List.getElem?_append_left
abbrev cF := @List.mem_or_eq_of_mem_set
abbrev cG := @List.mem_flatten
abbrev cH := @List.map_map
abbrev cI := @IntWalk.u64_in
abbrev cJ := @List.mem_of_getElem?
abbrev cL := @Nat.pow_le_pow_right
abbrev cM := @Nat.shiftLeft_add_eq_or_of_lt
abbrev cN := @Int.lt_trichotomy
abbrev cO := @List.find?_some
abbrev cP := @List.countP_eq_zero
abbrev cQ := @List.filter_eq_self
abbrev cR := @List.length_reverse
abbrev cT := @Array.getElem?_eq_none
abbrev cU := @List.filter_eq_nil_iff
abbrev cV := @Nat.mul_lt_mul_of_pos_right
abbrev cW := @Array.toList_setIfInBounds
abbrev cX := @List.getElem?_drop
abbrev cY := @Nat.lt_of_le_of_lt
abbrev cZ := @List.contains_iff_mem
abbrev c8 := @List.set_eq_take_append_cons_drop
abbrev c9 := @List.pairwise_iff_getElem
abbrev da := @ByteArray.empty
abbrev db := @Decidable.not_not
abbrev dd := @List.set_append_left
abbrev de := @Nat.mul_le_mul_right
abbrev df := @List.find?_range_eq_some
abbrev dg := @Nat.add_right_cancel_iff
abbrev dh := @List.all_eq_true
abbrev di := @List.exists_cons_of_length_pos
abbrev dj := @List.lookup_cons
abbrev dl := @List.take_length
abbrev dm := @Below.heap_setCell
abbrev dp := @List.filter_append
abbrev dq := @UInt8.not_lt
abbrev dr := @Nat.testBit_two_pow_sub_succ
abbrev dt := @Option.map_some
abbrev du := @Nat.add_assoc
abbrev dw := @List.length_filter_le
abbrev dx := @UInt8.lt_iff_toNat_lt
abbrev dy := @List.ext_getElem?
abbrev dz := @List.flatten_cons
abbrev dA := @List.getElem_take
abbrev dB := @Nat.mod_two_eq_zero_or_one
abbrev dC := @List.ext_getElem
abbrev dD := @List.flatMap_append
abbrev dE := @List.flatten_append
abbrev dF := @List.mem_filter
abbrev dG := @List.range_succ
abbrev dH := @List.sum_append
abbrev dI := @List.getElem_range
abbrev dJ := @List.filter_cons_of_neg
abbrev dK := @List.getElem?_cons_zero
abbrev dL := @List.map_id
abbrev dM := @Bool.eq_false_iff
abbrev dN := @List.flatMap_cons
abbrev dO := @List.map_set
abbrev dP := @Nat.sub_self
abbrev dQ := @UInt8.le_antisymm
theorem Ih {n : Nat} : n <= n := Nat.le_refl n
theorem If {p : Prop} (h : p) : Hid p := h
theorem ic (A : World -> Prop) : ∃ I : World -> Prop, (∀ w', I w' -> A w')/\(∀ w', A w' -> I w') := ⟨A, fun _ h => h, fun _ h => h⟩
theorem Ii {α : Sort _} (a : α) : ∃ k, a = k := ⟨a, rfl⟩
abbrev Ct (n : FuncId) (a : Array Value) (w : World) (R : Ending -> World -> Prop) : Prop := Calls Tryz.prog n a w R
abbrev Cb (n : FuncId) (a : Array Value) (w : World) (v : Value) : Prop := Calls Tryz.prog n a w fun e w' => e = .returned v/\Below w.heap.size w w'
structure pA (A B : Prop) : Prop where
 a : A
 b : B
theorem pA.out {A B : Prop} (h : pA A B) : A/\B := ⟨h.a, h.b⟩
theorem kq2 {A B : Prop} (x0 : A) (x1 : B) : pA A B := ⟨x0, x1⟩
structure pB (A B C : Prop) : Prop where
 a : A
 b : B
 c : C
theorem pB.out {A B C : Prop} (h : pB A B C) : A/\B/\C := ⟨h.a, h.b, h.c⟩
theorem kq3 {A B C : Prop} (x0 : A) (x1 : B) (x2 : C) : pB A B C := ⟨x0, x1, x2⟩
structure pC (A B C D : Prop) : Prop where
 a : A
 b : B
 c : C
 d : D
theorem pC.out {A B C D : Prop} (h : pC A B C D) : A/\B/\C/\D := ⟨h.a, h.b, h.c, h.d⟩
theorem kq4 {A B C D : Prop} (x0 : A) (x1 : B) (x2 : C) (x3 : D) : pC A B C D := ⟨x0, x1, x2, x3⟩
structure pE (A B C D E : Prop) : Prop where
 a : A
 b : B
 c : C
 d : D
 e : E
theorem pE.out {A B C D E : Prop} (h : pE A B C D E) : A/\B/\C/\D/\E := ⟨h.a, h.b, h.c, h.d, h.e⟩
theorem kq5 {A B C D E : Prop} (x0 : A) (x1 : B) (x2 : C) (x3 : D) (x4 : E) : pE A B C D E := ⟨x0, x1, x2, x3, x4⟩
structure pF (A B C D E F : Prop) : Prop where
 a : A
 b : B
 c : C
 d : D
 e : E
 f : F
theorem pF.out {A B C D E F : Prop} (h : pF A B C D E F) : A/\B/\C/\D/\E/\F := ⟨h.a, h.b, h.c, h.d, h.e, h.f⟩
theorem kq6 {A B C D E F : Prop} (x0 : A) (x1 : B) (x2 : C) (x3 : D) (x4 : E) (x5 : F) : pF A B C D E F := ⟨x0, x1, x2, x3, x4, x5⟩
structure pG (A B C D E F G : Prop) : Prop where
 a : A
 b : B
 c : C
 d : D
 e : E
 f : F
 g : G
theorem pG.out {A B C D E F G : Prop} (h : pG A B C D E F G) : A/\B/\C/\D/\E/\F/\G := ⟨h.a, h.b, h.c, h.d, h.e, h.f, h.g⟩
theorem kq7 {A B C D E F G : Prop} (x0 : A) (x1 : B) (x2 : C) (x3 : D) (x4 : E) (x5 : F) (x6 : G) : pG A B C D E F G := ⟨x0, x1, x2, x3, x4, x5, x6⟩
structure pH (A B C D E F G H : Prop) : Prop where
 a : A
 b : B
 c : C
 d : D
 e : E
 f : F
 g : G
 h : H
theorem pH.out {A B C D E F G H : Prop} (h : pH A B C D E F G H) : A/\B/\C/\D/\E/\F/\G/\H := ⟨h.a, h.b, h.c, h.d, h.e, h.f, h.g, h.h⟩
theorem kq8 {A B C D E F G H : Prop} (x0 : A) (x1 : B) (x2 : C) (x3 : D) (x4 : E) (x5 : F) (x6 : G) (x7 : H) : pH A B C D E F G H := ⟨x0, x1, x2, x3, x4, x5, x6, x7⟩
structure pI (A B C D E F G H I : Prop) : Prop where
 a : A
 b : B
 c : C
 d : D
 e : E
 f : F
 g : G
 h : H
 i : I
theorem pI.out {A B C D E F G H I : Prop} (h : pI A B C D E F G H I) : A/\B/\C/\D/\E/\F/\G/\H/\I := ⟨h.a, h.b, h.c, h.d, h.e, h.f, h.g, h.h, h.i⟩
theorem kq9 {A B C D E F G H I : Prop} (x0 : A) (x1 : B) (x2 : C) (x3 : D) (x4 : E) (x5 : F) (x6 : G) (x7 : H) (x8 : I) : pI A B C D E F G H I := ⟨x0, x1, x2, x3, x4, x5, x6, x7, x8⟩
structure pw (A B C D E F G H I J : Prop) : Prop where
 a : A
 b : B
 c : C
 d : D
 e : E
 f : F
 g : G
 h : H
 i : I
 j : J
theorem pw.out {A B C D E F G H I J : Prop} (h : pw A B C D E F G H I J) : A/\B/\C/\D/\E/\F/\G/\H/\I/\J := ⟨h.a, h.b, h.c, h.d, h.e, h.f, h.g, h.h, h.i, h.j⟩
theorem kq10 {A B C D E F G H I J : Prop} (x0 : A) (x1 : B) (x2 : C) (x3 : D) (x4 : E) (x5 : F) (x6 : G) (x7 : H) (x8 : I) (x9 : J) : pw A B C D E F G H I J := ⟨x0, x1, x2, x3, x4, x5, x6, x7, x8, x9⟩
structure py (A B C D E F G H I J K : Prop) : Prop where
 a : A
 b : B
 c : C
 d : D
 e : E
 f : F
 g : G
 h : H
 i : I
 j : J
 k : K
theorem py.out {A B C D E F G H I J K : Prop} (h : py A B C D E F G H I J K) : A/\B/\C/\D/\E/\F/\G/\H/\I/\J/\K := ⟨h.a, h.b, h.c, h.d, h.e, h.f, h.g, h.h, h.i, h.j, h.k⟩
theorem kq11 {A B C D E F G H I J K : Prop} (x0 : A) (x1 : B) (x2 : C) (x3 : D) (x4 : E) (x5 : F) (x6 : G) (x7 : H) (x8 : I) (x9 : J) (x10 : K) : py A B C D E F G H I J K := ⟨x0, x1, x2, x3, x4, x5, x6, x7, x8, x9, x10⟩
structure pz (A B C D E F G H I J K L : Prop) : Prop where
 a : A
 b : B
 c : C
 d : D
 e : E
 f : F
 g : G
 h : H
 i : I
 j : J
 k : K
 l : L
theorem pz.out {A B C D E F G H I J K L : Prop} (h : pz A B C D E F G H I J K L) : A/\B/\C/\D/\E/\F/\G/\H/\I/\J/\K/\L := ⟨h.a, h.b, h.c, h.d, h.e, h.f, h.g, h.h, h.i, h.j, h.k, h.l⟩
theorem kq12 {A B C D E F G H I J K L : Prop} (x0 : A) (x1 : B) (x2 : C) (x3 : D) (x4 : E) (x5 : F) (x6 : G) (x7 : H) (x8 : I) (x9 : J) (x10 : K) (x11 : L) : pz A B C D E F G H I J K L := ⟨x0, x1, x2, x3, x4, x5, x6, x7, x8, x9, x10, x11⟩
theorem gl {α : Type} {a : Array α} {i : Nat} {v : α} (h : a[i]? = some v) : i < a.size := (Array.getElem?_eq_some_iff.1 h).1
theorem pu : (∀ (a : Act) (v : Value), a.put none v = a)/\(∀ (a : Act) (d : Tmp) (v : Value), a.put (some d) v = { a with tmps := a.tmps.setIfInBounds d v })/\(∀ (l : List Value) (i : Nat) (v : Value), l.toArray.setIfInBounds i v = (l.set i v).toArray)/\(∀ (x : Value) (l : List Value) (v : Value), (x :: l).set 0 v = v :: l)/\(∀ (x : Value) (l : List Value) (n : Nat) (v : Value), (x :: l).set (n + 1) v = x :: l.set n v) := ⟨fun _ _ => rfl, fun _ _ _ => rfl, fun _ _ _ => List.setIfInBounds_toArray .., fun _ _ _ => rfl, fun _ _ _ _ => rfl⟩
