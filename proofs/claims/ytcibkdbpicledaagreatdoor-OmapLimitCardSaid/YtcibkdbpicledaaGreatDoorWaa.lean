import Derived.Lib.Hide
import Derived.Calls
set_option maxRecDepth 100000
namespace Go.Proofs.YtcibkdbpicledaaGreatDoor
open Go.RowKit
theorem kq2 {a0 a1 : Prop} (x0 : a0) (x1 : a1) : Hid (a0 ∧ a1) := Lib.hid ⟨x0, x1⟩
theorem kq3 {a0 a1 a2 : Prop} (x0 : a0) (x1 : a1) (x2 : a2) : Hid (a0 ∧ a1 ∧ a2) := Lib.hid ⟨x0, x1, x2⟩
theorem kq4 {a0 a1 a2 a3 : Prop} (x0 : a0) (x1 : a1) (x2 : a2) (x3 : a3) : Hid (a0 ∧ a1 ∧ a2 ∧ a3) := Lib.hid ⟨x0, x1, x2, x3⟩
theorem kq5 {a0 a1 a2 a3 a4 : Prop} (x0 : a0) (x1 : a1) (x2 : a2) (x3 : a3) (x4 : a4) : Hid (a0 ∧ a1 ∧ a2 ∧ a3 ∧ a4) := Lib.hid ⟨x0, x1, x2, x3, x4⟩
theorem kq6 {a0 a1 a2 a3 a4 a5 : Prop} (x0 : a0) (x1 : a1) (x2 : a2) (x3 : a3) (x4 : a4) (x5 : a5) : Hid (a0 ∧ a1 ∧ a2 ∧ a3 ∧ a4 ∧ a5) := Lib.hid ⟨x0, x1, x2, x3, x4, x5⟩
theorem kq7 {a0 a1 a2 a3 a4 a5 a6 : Prop} (x0 : a0) (x1 : a1) (x2 : a2) (x3 : a3) (x4 : a4) (x5 : a5) (x6 : a6) : Hid (a0 ∧ a1 ∧ a2 ∧ a3 ∧ a4 ∧ a5 ∧ a6) := Lib.hid ⟨x0, x1, x2, x3, x4, x5, x6⟩
theorem kq8 {a0 a1 a2 a3 a4 a5 a6 a7 : Prop} (x0 : a0) (x1 : a1) (x2 : a2) (x3 : a3) (x4 : a4) (x5 : a5) (x6 : a6) (x7 : a7) : Hid (a0 ∧ a1 ∧ a2 ∧ a3 ∧ a4 ∧ a5 ∧ a6 ∧ a7) := Lib.hid ⟨x0, x1, x2, x3, x4, x5, x6, x7⟩
theorem kq9 {a0 a1 a2 a3 a4 a5 a6 a7 a8 : Prop} (x0 : a0) (x1 : a1) (x2 : a2) (x3 : a3) (x4 : a4) (x5 : a5) (x6 : a6) (x7 : a7) (x8 : a8) : Hid (a0 ∧ a1 ∧ a2 ∧ a3 ∧ a4 ∧ a5 ∧ a6 ∧ a7 ∧ a8) := Lib.hid ⟨x0, x1, x2, x3, x4, x5, x6, x7, x8⟩
theorem kq10 {a0 a1 a2 a3 a4 a5 a6 a7 a8 a9 : Prop} (x0 : a0) (x1 : a1) (x2 : a2) (x3 : a3) (x4 : a4) (x5 : a5) (x6 : a6) (x7 : a7) (x8 : a8) (x9 : a9) : Hid (a0 ∧ a1 ∧ a2 ∧ a3 ∧ a4 ∧ a5 ∧ a6 ∧ a7 ∧ a8 ∧ a9) := Lib.hid ⟨x0, x1, x2, x3, x4, x5, x6, x7, x8, x9⟩
theorem kq11 {a0 a1 a2 a3 a4 a5 a6 a7 a8 a9 a10 : Prop} (x0 : a0) (x1 : a1) (x2 : a2) (x3 : a3) (x4 : a4) (x5 : a5) (x6 : a6) (x7 : a7) (x8 : a8) (x9 : a9) (x10 : a10) : Hid (a0 ∧ a1 ∧ a2 ∧ a3 ∧ a4 ∧ a5 ∧ a6 ∧ a7 ∧ a8 ∧ a9 ∧ a10) := Lib.hid ⟨x0, x1, x2, x3, x4, x5, x6, x7, x8, x9, x10⟩
theorem kq12 {a0 a1 a2 a3 a4 a5 a6 a7 a8 a9 a10 a11 : Prop} (x0 : a0) (x1 : a1) (x2 : a2) (x3 : a3) (x4 : a4) (x5 : a5) (x6 : a6) (x7 : a7) (x8 : a8) (x9 : a9) (x10 : a10) (x11 : a11) : Hid (a0 ∧ a1 ∧ a2 ∧ a3 ∧ a4 ∧ a5 ∧ a6 ∧ a7 ∧ a8 ∧ a9 ∧ a10 ∧ a11) := Lib.hid ⟨x0, x1, x2, x3, x4, x5, x6, x7, x8, x9, x10, x11⟩
theorem gl {α : Type} {a : Array α} {i : Nat} {v : α} (h : a[i]? = some v) : i < a.size := (Array.getElem?_eq_some_iff.1 h).1
theorem pu : (∀ (a : Act) (v : Value), a.put none v = a) ∧ (∀ (a : Act) (d : Tmp) (v : Value), a.put (some d) v = { a with tmps := a.tmps.setIfInBounds d v }) ∧ (∀ (l : List Value) (i : Nat) (v : Value), l.toArray.setIfInBounds i v = (l.set i v).toArray) ∧ (∀ (x : Value) (l : List Value) (v : Value), (x :: l).set 0 v = v :: l) ∧ (∀ (x : Value) (l : List Value) (n : Nat) (v : Value), (x :: l).set (n + 1) v = x :: l.set n v) := ⟨fun _ _ => rfl, fun _ _ _ => rfl, fun _ _ _ => List.setIfInBounds_toArray .., fun _ _ _ => rfl, fun _ _ _ _ => rfl⟩
